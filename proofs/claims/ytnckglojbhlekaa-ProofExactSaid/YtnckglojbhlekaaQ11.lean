/- The comparisons of boxes and of differences. -/
import Derived.Test.YtnckglojbhlekaaQ10
set_option linter.unusedVariables false
set_option linter.unusedSimpArgs false
namespace Go.Proofs
open Go.RowKit Go.Proofs.Mp

/-- a difference: a sheet and a box -/
structure Df where
  s : Int
  b : Bx
deriving Inhabited, DecidableEq
def encD (d : Df) : List Value := [.int .i64 d.s, .int .i64 d.b.x0, .int .i64 d.b.y0, .int .i64 d.b.x1, .int .i64 d.b.y1]
def aggD (d : Df) : Value := .agg #[.int .i64 d.s, .int .i64 d.b.x0, .int .i64 d.b.y0, .int .i64 d.b.x1, .int .i64 d.b.y1]
theorem encD_len (d : Df) : (encD d).length = 5 := rfl
theorem encD_one (x : Df) : ∀ u ∈ encD x, u.oneCell' = true := by
  intro u hu
  simp only [encD, List.mem_cons, List.not_mem_nil, or_false] at hu
  rcases hu with rfl | rfl | rfl | rfl | rfl <;> rfl
theorem Try.infoD : (Try.prog.info? 65).map (fun i => (i.zero, i.size, i.bytes)) = some (some (.agg #[.int .i64 0, .int .i64 0, .int .i64 0, .int .i64 0, .int .i64 0]), 5, 40) := by kernel_rfl
theorem Bx.rdGet {w wr : World} {A : Option Addr} {xs : List Bx} (h : Rd 4 encX w A xs) (hb : Below w.heap.size w wr) {j : Nat} (hj : j < xs.length) :
    ∃ b off, A = some ⟨b, off, none⟩ ∧ b < w.heap.size ∧ wr.cell? ⟨b, off + j * 4, none⟩ = some (.int .i64 xs[j]!.x0) ∧ wr.cell? ⟨b, off + j * 4 + 1, none⟩ = some (.int .i64 xs[j]!.y0) ∧ wr.cell? ⟨b, off + j * 4 + 2, none⟩ = some (.int .i64 xs[j]!.x1) ∧ wr.cell? ⟨b, off + j * 4 + 3, none⟩ = some (.int .i64 xs[j]!.y1) := by
  obtain ⟨b, off, rfl, hlt, hc⟩ := Rd.get h hb hj
  exact ⟨b, off, rfl, hlt, hc j hj 0 _ rfl, hc j hj 1 _ rfl, hc j hj 2 _ rfl, hc j hj 3 _ rfl⟩
theorem Df.rdGet {w wr : World} {A : Option Addr} {xs : List Df} (h : Rd 5 encD w A xs) (hb : Below w.heap.size w wr) {j : Nat} (hj : j < xs.length) :
    ∃ b off, A = some ⟨b, off, none⟩ ∧ b < w.heap.size ∧ wr.cell? ⟨b, off + j * 5, none⟩ = some (.int .i64 xs[j]!.s) ∧ wr.cell? ⟨b, off + j * 5 + 1, none⟩ = some (.int .i64 xs[j]!.b.x0) ∧ wr.cell? ⟨b, off + j * 5 + 2, none⟩ = some (.int .i64 xs[j]!.b.y0) ∧ wr.cell? ⟨b, off + j * 5 + 3, none⟩ = some (.int .i64 xs[j]!.b.x1) ∧ wr.cell? ⟨b, off + j * 5 + 4, none⟩ = some (.int .i64 xs[j]!.b.y1) := by
  obtain ⟨b, off, rfl, hlt, hc⟩ := Rd.get h hb hj
  exact ⟨b, off, rfl, hlt, hc j hj 0 _ rfl, hc j hj 1 _ rfl, hc j hj 2 _ rfl, hc j hj 3 _ rfl, hc j hj 4 _ rfl⟩

theorem Try.neq38 (x y : Bx) (W : World) : (binOp .neq 38 (aggX x) (aggX y)).run Try.prog W = .ok (.bool (decide (x ≠ y))) W := by
  obtain ⟨a0, a1, a2, a3⟩ := x
  obtain ⟨b0, b1, b2, b3⟩ := y
  unfold aggX
  dsimp only
  have u3 := Try.underlying3
  have ag3 := Try.isAgg3
  have z3 := Try.sizeOf3
  have hS : Try.prog.underlying 38 = some (.struct (Try.prog.fieldsOf 38)) := by kernel_rfl
  have hp : Try.prog.stoodInHeld 38 = false := by kernel_rfl
  rw [run_neq_struct, show (10000 : Nat) = 9999 + 1 from rfl, run_equalIn_agg W 9999 38 _ _ hS hp]
  simp only [Program.fieldsOf, Try.underlying38]
  go_simp
  repeat' split
  all_goals simp [*]
theorem Try.guard38 : Try.prog.eqGuardType Try.prog.depth 38 = false := by kernel_rfl
theorem Try.neq65 (x y : Df) (W : World) : (binOp .neq 65 (aggD x) (aggD y)).run Try.prog W = .ok (.bool (decide (x ≠ y))) W := by
  obtain ⟨sa, a0, a1, a2, a3⟩ := x
  obtain ⟨sb, b0, b1, b2, b3⟩ := y
  unfold aggD
  dsimp only
  have u3 := Try.underlying3
  have ag3 := Try.isAgg3
  have z3 := Try.sizeOf3
  have ag38 := Try.isAgg38
  have z38 := Try.sizeOf38
  have u38 := Try.underlying38
  have hS38 : Try.prog.underlying 38 = some (.struct (Try.prog.fieldsOf 38)) := by kernel_rfl
  have hp38 : Try.prog.stoodInHeld 38 = false := by kernel_rfl
  have hS : Try.prog.underlying 65 = some (.struct (Try.prog.fieldsOf 65)) := by kernel_rfl
  have hp : Try.prog.stoodInHeld 65 = false := by kernel_rfl
  rw [run_neq_struct, show (10000 : Nat) = 9999 + 1 from rfl, run_equalIn_agg W 9999 65 _ _ hS hp]
  simp only [Program.fieldsOf, Try.underlying65]
  go_simp
  repeat' split
  all_goals simp [*]
theorem Try.guard65 : Try.prog.eqGuardType Try.prog.depth 65 = false := by kernel_rfl

section
variable {α : Type} [Inhabited α]
def agreeG (xs ys : List α) (k : Nat) : Prop := ∀ j, j < k → xs[j]! = ys[j]!
theorem agreeG_succ {xs ys : List α} {k : Nat} (h : agreeG xs ys k) (hk : xs[k]! = ys[k]!) : agreeG xs ys (k + 1) := by
  intro j hj
  rcases Nat.lt_succ_iff_lt_or_eq.1 hj with h1 | rfl
  · exact h j h1
  · exact hk
theorem agreeG_all {xs ys : List α} (hl : xs.length = ys.length) (h : agreeG xs ys xs.length) : xs = ys := by
  apply List.ext_getElem hl
  intro i h1 h2
  have := h i h1
  simpa [h1, h2] using this
end

set_option maxHeartbeats 1000000 in
theorem same_boxes (A B : Option Addr) (c d : Nat) (xs ys : List Bx) (w : World) (h1 : xs.length ≤ 1000000000) (h2 : ys.length ≤ 1000000000) (hA : Rd 4 encX w A xs) (hB : Rd 4 encX w B ys) :
    Calls Try.prog 16 #[.slice A xs.length c, .slice B ys.length d] w (RetV w (.bool (decide (xs = ys)))) := by
  by_cases hl : xs.length = ys.length
  · have hlb : ((xs.length : Int) != (ys.length : Int)) = false := by simp [hl]
    have HL := Lib.hid hl
    clear hl
    go_enter Try.func16, Try.ntmps16
    go_wp2
    go_loopw [5] (fun i wr => ∃ k : Nat, k ≤ xs.length ∧ i = .int .i64 k ∧ agreeG xs ys k ∧ Below w.heap.size w wr) (fun i _ => xs.length - (intOf i).toNat)
    case atStart => exact ⟨0, by omega, rfl, fun j hj => by omega, Below.refl _ _⟩
    case round =>
      obtain ⟨k, hk, rfl, hag, hbw⟩ := hrel
      by_cases hlt : k < xs.length
      · have hly : k < ys.length := by have := HL.out; omega
        obtain ⟨b, off, rfl, hb, a0, a1, a2, a3⟩ := Bx.rdGet hA hbw hlt
        obtain ⟨b', off', rfl, hb', e0, e1, e2, e3⟩ := Bx.rdGet hB hbw hly
        obtain ⟨x, hx⟩ : ∃ x, xs[k]! = x := ⟨_, rfl⟩
        obtain ⟨y, hy⟩ : ∃ y, ys[k]! = y := ⟨_, rfl⟩
        rw [hx] at a0 a1 a2 a3
        rw [hy] at e0 e1 e2 e3
        have HX := Lib.hid hx
        have HY := Lib.hid hy
        clear hx hy
        have hG := Try.guard38
        have hN := fun W => Try.neq38 x y W
        unfold aggX at hN
        by_cases he : x = y
        · rw [decide_eq_false (by simpa using he)] at hN
          have HE := Lib.hid he
          clear he
          go_wp2
          go_quiet (fail)
          have hb2 := fun n => hbw.trans (below_drewN (Below.refl w.heap.size wr) n)
          go_wp2
          go_roundw
          case rel => exact ⟨k + 1, by omega, by go_num, agreeG_succ hag (by rw [HX.out, HY.out, HE.out]), hb2 _⟩
          case measure => simp [intOf]; omega
        · rw [decide_eq_true (by simpa using he)] at hN
          have HE := Lib.hid he
          clear he
          go_wp2
          go_quiet (fail)
          have hb2 := fun n => hbw.trans (below_drewN (Below.refl w.heap.size wr) n)
          go_wp2
          go_ret
          exact RetV.bool (by symm; rw [decide_eq_false_iff_not]; intro e; exact HE.out (by rw [← HX.out, ← HY.out, e])) (hb2 _)
      · go_wp2
        go_ret
        exact RetV.bool (by symm; rw [decide_eq_true_iff]; exact agreeG_all HL.out (by rwa [show xs.length = k by omega])) hbw
  · have hlb : ((xs.length : Int) != (ys.length : Int)) = true := by simp; omega
    have hne : xs ≠ ys := fun e => hl (by rw [e])
    clear hl
    go_enter Try.func16, Try.ntmps16
    go_wp2
    go_ret
    exact RetV.bool (by simp [hne]) (Below.refl _ _)

set_option maxHeartbeats 1000000 in
theorem same_diffs (A B : Option Addr) (c d : Nat) (xs ys : List Df) (w : World) (h1 : xs.length ≤ 1000000000) (h2 : ys.length ≤ 1000000000) (hA : Rd 5 encD w A xs) (hB : Rd 5 encD w B ys) :
    Calls Try.prog 21 #[.slice A xs.length c, .slice B ys.length d] w (RetV w (.bool (decide (xs = ys)))) := by
  by_cases hl : xs.length = ys.length
  · have hlb : ((xs.length : Int) != (ys.length : Int)) = false := by simp [hl]
    have HL := Lib.hid hl
    clear hl
    go_enter Try.func21, Try.ntmps21
    go_wp2
    go_loopw [5] (fun i wr => ∃ k : Nat, k ≤ xs.length ∧ i = .int .i64 k ∧ agreeG xs ys k ∧ Below w.heap.size w wr) (fun i _ => xs.length - (intOf i).toNat)
    case atStart => exact ⟨0, by omega, rfl, fun j hj => by omega, Below.refl _ _⟩
    case round =>
      obtain ⟨k, hk, rfl, hag, hbw⟩ := hrel
      by_cases hlt : k < xs.length
      · have hly : k < ys.length := by have := HL.out; omega
        obtain ⟨b, off, rfl, hb, a0, a1, a2, a3, a4⟩ := Df.rdGet hA hbw hlt
        obtain ⟨b', off', rfl, hb', e0, e1, e2, e3, e4⟩ := Df.rdGet hB hbw hly
        obtain ⟨x, hx⟩ : ∃ x, xs[k]! = x := ⟨_, rfl⟩
        obtain ⟨y, hy⟩ : ∃ y, ys[k]! = y := ⟨_, rfl⟩
        rw [hx] at a0 a1 a2 a3 a4
        rw [hy] at e0 e1 e2 e3 e4
        have HX := Lib.hid hx
        have HY := Lib.hid hy
        clear hx hy
        have hG := Try.guard65
        have hN := fun W => Try.neq65 x y W
        unfold aggD at hN
        by_cases he : x = y
        · rw [decide_eq_false (by simpa using he)] at hN
          have HE := Lib.hid he
          clear he
          go_wp2
          go_quiet (fail)
          have hb2 := fun n => hbw.trans (below_drewN (Below.refl w.heap.size wr) n)
          go_wp2
          go_roundw
          case rel => exact ⟨k + 1, by omega, by go_num, agreeG_succ hag (by rw [HX.out, HY.out, HE.out]), hb2 _⟩
          case measure => simp [intOf]; omega
        · rw [decide_eq_true (by simpa using he)] at hN
          have HE := Lib.hid he
          clear he
          go_wp2
          go_quiet (fail)
          have hb2 := fun n => hbw.trans (below_drewN (Below.refl w.heap.size wr) n)
          go_wp2
          go_ret
          exact RetV.bool (by symm; rw [decide_eq_false_iff_not]; intro e; exact HE.out (by rw [← HX.out, ← HY.out, e])) (hb2 _)
      · go_wp2
        go_ret
        exact RetV.bool (by symm; rw [decide_eq_true_iff]; exact agreeG_all HL.out (by rwa [show xs.length = k by omega])) hbw
  · have hlb : ((xs.length : Int) != (ys.length : Int)) = true := by simp; omega
    have hne : xs ≠ ys := fun e => hl (by rw [e])
    clear hl
    go_enter Try.func21, Try.ntmps21
    go_wp2
    go_ret
    exact RetV.bool (by simp [hne]) (Below.refl _ _)

end Go.Proofs
