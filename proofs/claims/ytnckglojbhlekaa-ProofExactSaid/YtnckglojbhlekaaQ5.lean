/- The runs of a row, the program's. -/
import Derived.Test.YtnckglojbhlekaaQ4
import Derived.Test.YtnckglojbhlekaaS9
set_option linter.unusedVariables false
set_option linter.unusedSimpArgs false
namespace Go.Proofs
open Go.RowKit Go.Proofs.Mp

/-- the cells before m that differ, each as a range of its own -/
def diffTo (a b : List Int) (m : Nat) : List (Int × Int) := ((List.range m).filter fun x => decide (a[x]! ≠ b[x]!)).map fun (x : Nat) => ((x : Int), (x : Int) + 1)
def diffR (a b : List Int) : List (Int × Int) := diffTo a b a.length
theorem diffTo_yes {a b : List Int} {m : Nat} (h : a[m]! ≠ b[m]!) : diffTo a b (m + 1) = diffTo a b m ++ [((m : Int), (m : Int) + 1)] := by
  unfold diffTo
  rw [List.range_succ, List.filter_append, List.map_append]
  congr 1
  rw [List.filter_cons, if_pos (decide_eq_true h)]
  rfl
theorem diffTo_no {a b : List Int} {m : Nat} (h : a[m]! = b[m]!) : diffTo a b (m + 1) = diffTo a b m := by
  unfold diffTo
  rw [List.range_succ, List.filter_append, List.map_append, List.filter_cons, if_neg (by simp [h])]
  simp
theorem diffTo_len (a b : List Int) (m : Nat) : (diffTo a b m).length ≤ m := by
  unfold diffTo
  rw [List.length_map]
  exact Nat.le_trans (List.length_filter_le _ _) (by simp)

set_option maxHeartbeats 4000000 in
theorem proof_runs (A B : Option Addr) (c d : Nat) (xs ys : List Int) (w : World) (h1 : xs.length ≤ 1000000) (hl : ys.length = xs.length) (hA : RdI w A xs) (hB : RdI w B ys) :
    Calls Try.prog 29 #[.slice A xs.length c, .slice B ys.length d] w (fun e w' => ∃ v, e = .returned v ∧ OwnR 74 w' w.heap.size v (normL (diffR xs ys)) ∧ Below w.heap.size w w') := by
  have HL := Lib.hid hl
  have hly : ∀ k, k < xs.length → (k : Int) < (ys.length : Int) := fun k hk => by omega
  have HLY := Lib.hid hly
  clear hl hly
  go_enter Try.func29, Try.ntmps29
  go_wp2_with fail
  go_loopw [4, 8] (fun v i wr => ∃ k : Nat, k ≤ xs.length ∧ i = .int .i64 k ∧ OwnR 74 wr w.heap.size v (diffTo xs ys k) ∧ Below w.heap.size w wr) (fun _ i _ => xs.length - (intOf i).toNat)
  case atStart => exact ⟨0, by omega, rfl, Own.nil w _, Below.refl _ _⟩
  case round =>
    obtain ⟨k, hk, rfl, hown, hbw⟩ := hrel
    by_cases hlt : k < xs.length
    · have hky := HLY.out k hlt
      obtain ⟨b, off, rfl, hb, g1⟩ := RdI.get hA hbw hlt
      obtain ⟨b', off', rfl, hb', g2⟩ := RdI.get hB hbw (show k < ys.length by omega)
      have hdl := diffTo_len xs ys k
      obtain ⟨x, hx⟩ : ∃ x, xs[k]! = x := ⟨_, rfl⟩
      obtain ⟨y, hy⟩ : ∃ y, ys[k]! = y := ⟨_, rfl⟩
      rw [hx] at g1
      rw [hy] at g2
      have HX := Lib.hid hx
      have HY := Lib.hid hy
      clear hx hy
      by_cases he : x = y
      · have hbn : (x != y) = false := by simp [he]
        have HE := Lib.hid he
        clear he
        go_wp2
        go_quiet (fail)
        have hb2 := fun n => hbw.trans (below_drewN (Below.refl w.heap.size wr) n)
        have ho2 := fun n => hown.drewN n
        go_wp2
        go_roundw
        case rel => exact ⟨k + 1, by omega, by go_num, by rw [diffTo_no (by rw [HX.out, HY.out, HE.out])]; exact ho2 _, hb2 _⟩
        case measure => simp [intOf]; omega
      · have hbn : (x != y) = true := by simp [he]
        have HE := Lib.hid he
        clear he
        have hs := hbw.size
        have hw1 : IntKind.i64.wrap ((k : Int) + 1) = (k : Int) + 1 := IntWalk.i64_in _ (by omega)
        go_wp2
        go_quiet (fail)
        have hb2 := fun n => hbw.trans (below_drewN (Below.refl w.heap.size wr) n)
        have ho2 := fun n => hown.drewN n
        go_wp2_with (at_builtin; refine Try.appR (ho2 _) k ((k : Int) + 1) rfl _ _ rfl rfl rfl (by omega) hs ?_; intro v2 w2 hown2 hb3)
        have hb4 := (hb2 _).trans hb3
        clear hb2 ho2
        go_roundw
        case rel => exact ⟨k + 1, by omega, by go_num, by rw [diffTo_yes (by rw [HX.out, HY.out]; exact HE.out)]; exact hown2, hb4⟩
        case measure => simp [intOf]; omega
    · obtain rfl : k = xs.length := by omega
      obtain ⟨C, e, rfl⟩ := Own.slice hown
      have hRd : RdR wr C (diffR xs ys) := Own.rd encR_len hown
      have hdl := diffTo_len xs ys xs.length
      have hn : (diffTo xs ys xs.length).length = (diffR xs ys).length := rfl
      have cN := Lib.hid (span_normal_c C e (diffR xs ys) wr (by rw [← hn]; omega) hRd)
      rw [hn]
      clear hn
      go_wp2_with fail
      refine cN.out.mono ?_
      rintro e1 w1 ⟨v1, rfl, ho1, hb1⟩
      have kb := hbw.trans (hb1.mono hbw.size)
      clear cN hRd
      go_wp2
      go_ret
      exact ⟨v1, rfl, ho1.mono hbw.size, kb⟩
end Go.Proofs
