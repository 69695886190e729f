import Derived.Test.YtoknjlodhohioaaT3
set_option linter.unusedVariables false
set_option linter.unusedSimpArgs false
namespace Go.Proofs
open Go.RowKit Go.Proofs.Mp

theorem Try.appAll {w : World} {base : Nat} {v : Value} {xs ys : List Int} {ops : Array Oper} {rest : List Oper} {o : Oper} {a : Act} {Q : Exit → Act → World → Prop}
    (hown : OwnI 3 w base v xs) {A : Option Addr} {c : Nat} (hR : RdI w A ys) (hgd : o.guard = none) (s x : Operand)
    (ho : o.op = .call { callee := .builtin .append, args := #[s, x], argTypes := #[38, 38] }) (hs : a.eval s = v) (hx : a.eval x = .slice A ys.length c)
    (hN : xs.length + ys.length ≤ 1000000000000) (hbase : base ≤ w.heap.size)
    (h : ∀ v' w', OwnI 3 w' base v' (xs ++ ys) → Below base w w' → wpList Try.prog ops Q rest (a.put o.dst v') w') :
    wpList Try.prog ops Q (o :: rest) a w := by
  obtain ⟨i0, hi, hz0, hz1, hz2⟩ := Mp.info_parts Try.infoI
  exact wpList_plain hgd fun _ hK => Own.wpAll 38 i0 (.int .i64 0) 8 Try.underlying38 hi hz0 hz1 hz2 rfl (by decide) (by decide) encI_len encI_one s x ho hown hs hR hx (by omega) hbase fun v' w' h2 h3 => hK _ _ (h v' w' h2 h3)

/-- a slice of integers as an element: its address, its capacity, the integers that it reads as -/
def encSl (s : Option Addr × Nat × List Int) : List Value := [.slice s.1 s.2.2.length s.2.1]
abbrev RdS (w : World) (A : Option Addr) (ls : List (Option Addr × Nat × List Int)) : Prop := Rd 1 encSl w A ls
def sumL (ls : List (Option Addr × Nat × List Int)) : Nat := (ls.map fun s => s.2.2.length).sum
def catL (ls : List (Option Addr × Nat × List Int)) : List Int := ls.flatMap fun s => s.2.2
theorem RdS.get {w wr : World} {A : Option Addr} {ls : List (Option Addr × Nat × List Int)} (h : RdS w A ls) (hb : Below w.heap.size w wr) {j : Nat} (hj : j < ls.length) :
    ∃ b off, A = some ⟨b, off, none⟩ ∧ b < w.heap.size ∧ wr.cell? ⟨b, off + j, none⟩ = some (.slice ls[j]!.1 ls[j]!.2.2.length ls[j]!.2.1) := by
  obtain ⟨b, off, rfl, hlt, hc⟩ := Rd.get h hb hj
  exact ⟨b, off, rfl, hlt, by simpa using hc j hj 0 _ rfl⟩
theorem sum_take {ls : List (Option Addr × Nat × List Int)} {k : Nat} (h : k < ls.length) : sumL (ls.take (k + 1)) = sumL (ls.take k) + ls[k]!.2.2.length := by
  unfold sumL
  rw [List.take_succ_eq_append_getElem h, List.map_append, List.sum_append]
  congr 1
  simp [h]
theorem cat_take {ls : List (Option Addr × Nat × List Int)} {k : Nat} (h : k < ls.length) : catL (ls.take (k + 1)) = catL (ls.take k) ++ ls[k]!.2.2 := by
  unfold catL
  rw [List.take_succ_eq_append_getElem h, List.flatMap_append]
  congr 1
  simp [h]
theorem sum_take_le (ls : List (Option Addr × Nat × List Int)) (k : Nat) : sumL (ls.take k) ≤ sumL ls := by
  unfold sumL
  conv => rhs; rw [← List.take_append_drop k ls]
  rw [List.map_append, List.sum_append]
  omega
theorem cat_len (ls : List (Option Addr × Nat × List Int)) : (catL ls).length = sumL ls := by
  unfold catL sumL
  rw [List.length_flatMap]

set_option maxHeartbeats 1000000 in
theorem concat_any (A : Option Addr) (c : Nat) (ls : List (Option Addr × Nat × List Int)) (w : World) (h1 : ls.length ≤ 1000000) (h2 : sumL ls ≤ 1000000000000) (hA : RdS w A ls) (hS : ∀ s ∈ ls, RdI w s.1 s.2.2) :
    Calls Try.prog 37 #[.slice A ls.length c] w (fun e w' => ∃ v, e = .returned v ∧ OwnI 3 w' w.heap.size v (catL ls) ∧ Below w.heap.size w w') := by
  go_enter Try.func37, Try.ntmps37
  go_wp2_with fail
  go_loopw [3, 11] (fun n i wr => ∃ k : Nat, k ≤ ls.length ∧ i = .int .i64 k ∧ n = .int .i64 (sumL (ls.take k) : Nat) ∧ Below w.heap.size w wr) (fun _ i _ => ls.length - (intOf i).toNat)
  case atStart => exact ⟨0, by omega, rfl, rfl, Below.refl _ _⟩
  case round =>
    obtain ⟨k, hk, rfl, rfl, hbw⟩ := hrel
    by_cases hlt : k < ls.length
    · obtain ⟨b, off, rfl, hb, g1⟩ := RdS.get hA hbw hlt
      have HX := Lib.hid (sum_take hlt)
      have hle := sum_take_le ls (k + 1)
      rw [sum_take hlt] at hle
      generalize ls[k]! = s at *
      generalize sumL (ls.take k) = n at *
      have e1 : IntKind.i64.wrap ((n : Int) + (s.2.2.length : Int)) = ((n + s.2.2.length : Nat) : Int) := by rw [IntWalk.i64_in _ (by omega)]; omega
      have e2 : ¬ (((n + s.2.2.length : Nat) : Int) < 0) := by omega
      go_wp2
      go_roundw
      case rel => exact ⟨k + 1, by omega, by go_num, by rw [HX.out]; exact congrArg (Value.int .i64) (by omega), hbw⟩
      case measure => simp [intOf]; omega
    · obtain rfl : k = ls.length := by omega
      simp only [List.take_length]
      have hs := hbw.size
      go_wp2_with fail
      refine (grow_nil (sumL ls) wr h2).mono ?_
      rintro e w1 ⟨v1, rfl, hown1, hb1⟩
      have k1 := hbw.trans (hb1.mono hs)
      have hown0 := hown1.mono hs
      go_wp2_with fail
      go_loopw [6, 27] (fun v i wr => ∃ k : Nat, k ≤ ls.length ∧ i = .int .i64 k ∧ OwnI 3 wr w.heap.size v (catL (ls.take k)) ∧ Below w.heap.size w wr) (fun _ i _ => ls.length - (intOf i).toNat)
      case atStart => exact ⟨0, by omega, rfl, hown0, k1⟩
      case round =>
        obtain ⟨k, hk, rfl, hown, hbw2⟩ := hrel
        by_cases hlt : k < ls.length
        · obtain ⟨b, off, rfl, hb, g1⟩ := RdS.get hA hbw2 hlt
          have HX := Lib.hid (cat_take hlt)
          have hle := sum_take_le ls (k + 1)
          rw [← cat_len, cat_take hlt, List.length_append] at hle
          have hRs := (hS ls[k]! (by simp [hlt])).below hbw2
          generalize ls[k]! = s at *
          generalize catL (ls.take k) = xs at *
          go_wp2_with (at_builtin; refine Try.appAll hown hRs rfl _ _ rfl rfl rfl (by omega) hbw2.size ?_; clear hown hRs; intro v2 w2 hown2 hb2)
          go_roundw
          case rel => exact ⟨k + 1, by omega, by go_num, by rw [HX.out]; exact hown2, hbw2.trans hb2⟩
          case measure => simp [intOf]; omega
        · obtain rfl : k = ls.length := by omega
          simp only [List.take_length] at hown
          go_wp2
          go_ret
          exact ⟨_, rfl, hown, hbw2⟩
end Go.Proofs
