import Derived.Test.YtaampfdgidndkaaProg
import Derived.Test.YtaampfdgidndkaaBase
import Derived.BigQuiet
import Derived.Deep.DeepMust
import Derived.Deep.QuietTactic
namespace Go.Proofs
open Go.RowKit Go.Proofs.Mp

def withStep (n : Int) (s : List Int × Bool) (x : Int) : List Int × Bool :=
  if s.2 = false ∧ n ≤ x then ((if n < x then s.1 ++ [n] else s.1) ++ [x], true) else (s.1 ++ [x], s.2)
def withSt (l : List Int) (n : Int) (k : Nat) : List Int × Bool := (l.take k).foldl (withStep n) ([], false)
def withL (l : List Int) (n : Int) : List Int := if (withSt l n l.length).2 then (withSt l n l.length).1 else (withSt l n l.length).1 ++ [n]

theorem withStep_len (n : Int) (s : List Int × Bool) (x : Int) (m : Nat) (h : s.1.length ≤ m + (if s.2 then 1 else 0)) : (withStep n s x).1.length ≤ m + 1 + (if (withStep n s x).2 then 1 else 0) := by
  unfold withStep
  split
  · split <;> simp_all
    omega
  · simp; omega
theorem withSt_len' (l : List Int) (n : Int) (k : Nat) : (withSt l n k).1.length ≤ k + (if (withSt l n k).2 then 1 else 0) := by
  induction k with
  | zero => simp [withSt]
  | succ k ih =>
    by_cases h : k < l.length
    · have e : withSt l n (k + 1) = withStep n (withSt l n k) l[k]! := foldl_take_succ _ _ _ _ h
      rw [e]
      exact withStep_len n _ _ _ ih
    · have e : withSt l n (k + 1) = withSt l n k := by unfold withSt; rw [List.take_of_length_le (by omega), List.take_of_length_le (by omega)]
      rw [e]; omega
theorem withSt_len (l : List Int) (n : Int) (k : Nat) : (withSt l n k).1.length ≤ k + 1 := by
  have := withSt_len' l n k
  split at this <;> omega

theorem Try.infoI : (Try.prog.info? 3).map (fun i => (i.zero, i.size, i.bytes)) = some (some (.int .i64 0), 1, 8) := by kernel_rfl

theorem Try.appI {w : World} {base : Nat} {v : Value} {xs : List Int} {ops : Array Oper} {rest : List Oper} {o : Oper} {a : Act} {Q : Exit → Act → World → Prop}
    (hown : OwnI 3 w base v xs) (y : Int) (hgd : o.guard = none) (s x : Operand)
    (ho : o.op = .call { callee := .builtin .append, args := #[s, x], argTypes := #[46, 46] }) (hs : a.eval s = v) (hx : a.eval x = .slice (some ⟨w.heap.size, 0, none⟩) 1 1)
    (hN : xs.length + 1 ≤ 1000000000000) (hbase : base ≤ w.heap.size)
    (h : ∀ v' w', OwnI 3 w' base v' (xs ++ [y]) → Below base w w' → wpList Try.prog ops Q rest (a.put o.dst v') w') :
    wpList Try.prog ops Q (o :: rest) a (w.alloc (.cells #[.int .i64 y] 3)) := by
  obtain ⟨i0, hi, hz0, hz1, hz2⟩ := info_parts Try.infoI
  exact Own.append1 46 i0 (.int .i64 0) 8 Try.underlying46 hi hz0 hz1 hz2 rfl (by decide) (by decide) encI_len encI_one hgd s x ho hown hs y hx (by omega) hbase h

set_option maxHeartbeats 400000 in
theorem ref_with (A : Option Addr) (c : Nat) (n : Int) (l : List Int) (w : World) (hmax : l.length ≤ 1000000000) (hR : RdI w A l) :
    Calls Try.prog 47 #[.slice A l.length c, .int .i64 n] w (RetI w (withL l n)) := by
  go_enter Try.func47, Try.ntmps47
  go_wp2
  go_loopw [5, 6, 7] (fun v d i wr => ∃ k : Nat, k ≤ l.length ∧ i = .int .i64 k ∧ d = .bool (withSt l n k).2 ∧ OwnI 3 wr w.heap.size v (withSt l n k).1 ∧ Below w.heap.size w wr) (fun _ _ i _ => l.length - (intOf i).toNat)
  case atStart => exact ⟨0, by omega, rfl, rfl, Own.nil _ _, Below.refl _ _⟩
  case round =>
    obtain ⟨k, hk, rfl, rfl, hown, hbw⟩ := hrel
    have hlen := withSt_len l n k
    have hbs := hbw.size
    by_cases hlt : k < l.length
    · obtain ⟨b, off, rfl, hb, h1⟩ := RdI.get hR hbw hlt
      have HX := Lib.hid (foldl_take_succ (withStep n) ([], false) l k hlt)
      generalize l[k]! = x at *
      change Hid (withSt l n (k + 1) = withStep n (withSt l n k) x) at HX
      generalize withSt l n k = s at *
      obtain ⟨xs, d⟩ := s
      dsimp only at hlen hown
      rcases d with _ | _
      · by_cases g1 : n ≤ x
        · by_cases g2 : n < x
          · go_wp2_with (first
              | (at_builtin; refine Try.appI hown n rfl _ _ rfl rfl rfl (by omega) (by omega) ?_; clear hown; intro v1 w1 hown1 hb1; have h2 := (hb1.cell (p := ⟨b, off + k, none⟩) hb).trans h1; clear h1)
              | (at_builtin; have hz1 := hb1.size; have hl1 : (xs ++ [n]).length ≤ k + 2 := (by simp; omega); refine Try.appI hown1 x rfl _ _ rfl rfl rfl (by omega) (by omega) ?_; clear hown1; intro v2 w2 hown2 hb2))
            go_roundw
            case rel => exact ⟨k + 1, by omega, by go_num, by rw [HX.out]; simp [withStep, g1, g2], by rw [HX.out]; simpa [withStep, g1, g2] using hown2, (hbw.trans hb1).trans hb2⟩
            case measure => simp [intOf]; omega
          · go_wp2_with (at_builtin; refine Try.appI hown x rfl _ _ rfl rfl rfl (by omega) (by omega) ?_; clear hown; intro v1 w1 hown1 hb1)
            go_roundw
            case rel => exact ⟨k + 1, by omega, by go_num, by rw [HX.out]; simp [withStep, g1, g2], by rw [HX.out]; simpa [withStep, g1, g2] using hown1, hbw.trans hb1⟩
            case measure => simp [intOf]; omega
        · go_wp2_with (at_builtin; refine Try.appI hown x rfl _ _ rfl rfl rfl (by omega) (by omega) ?_; clear hown; intro v1 w1 hown1 hb1)
          go_roundw
          case rel => exact ⟨k + 1, by omega, by go_num, by rw [HX.out]; simp [withStep, g1], by rw [HX.out]; simpa [withStep, g1] using hown1, hbw.trans hb1⟩
          case measure => simp [intOf]; omega
      · go_wp2_with (at_builtin; refine Try.appI hown x rfl _ _ rfl rfl rfl (by omega) (by omega) ?_; clear hown; intro v1 w1 hown1 hb1)
        go_roundw
        case rel => exact ⟨k + 1, by omega, by go_num, by rw [HX.out]; simp [withStep], by rw [HX.out]; simpa [withStep] using hown1, hbw.trans hb1⟩
        case measure => simp [intOf]; omega
    · obtain rfl : k = l.length := by omega
      have HW := Lib.hid (show withL l n = (if (withSt l n l.length).2 then (withSt l n l.length).1 else (withSt l n l.length).1 ++ [n]) from rfl)
      generalize withSt l n l.length = s at *
      obtain ⟨xs, d⟩ := s
      dsimp only at hlen hown HW
      rcases d with _ | _
      · go_wp2_with (at_builtin; refine Try.appI hown n rfl _ _ rfl rfl rfl (by omega) (by omega) ?_; clear hown; intro v1 w1 hown1 hb1)
        go_ret
        have e := HW.out
        simp only [Bool.false_eq_true, if_false] at e
        rw [e]
        exact RetRd.of_own encI_len hown1 (hbw.trans hb1)
      · go_wp2
        go_ret
        have e := HW.out
        simp only [if_true] at e
        rw [e]
        exact RetRd.of_own encI_len hown hbw
end Go.Proofs
