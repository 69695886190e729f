import Derived.Test.YtaampfdgidndkaaT6
import Derived.Test.YtaampfdgidndkaaShelf
set_option linter.unusedVariables false
set_option linter.unusedSimpArgs false
namespace Go.Proofs
open Go.RowKit Go.Proofs.Mp Go.Shelf Go.Lib

theorem Try.pred29 (x : Int) (B : Nat) (w : World) (hB : B < w.heap.size) (hcell : w.cell? ⟨B, 0, none⟩ = some (.int .i64 x)) :
    PredBelow Try.prog 29 #[.pointer (some ⟨B, 0, none⟩)] (fun r => .agg (encR r).toArray) (inR x) w := fun W r hb => by
  have hc : W.cell? ⟨B, 0, none⟩ = some (.int .i64 x) := (hb.cell (p := ⟨B, 0, none⟩) hB).trans hcell
  have hBW : B < W.heap.size := Nat.lt_of_lt_of_le hB hb.size
  have hne : B ≠ W.heap.size := by omega
  obtain ⟨lo, hi⟩ := r
  show Calls Try.prog 29 #[.agg #[.int .i64 lo, .int .i64 hi], .pointer (some ⟨B, 0, none⟩)] W _
  by_cases g1 : lo ≤ x
  · by_cases g2 : x < hi
    all_goals
      go_enter Try.func29, Try.ntmps29
      go_wp2
      go_ret
      exact ⟨by simp [inR, g1, g2], hb.alloc hb.size _⟩
  · go_enter Try.func29, Try.ntmps29
    go_wp2
    go_ret
    exact ⟨by rw [show inR x (lo, hi) = false by unfold inR; simp; omega]; rfl, hb.alloc hb.size _⟩

theorem index_none (A : Option Addr) (c : Nat) (f : Value) (w : World) : Calls Try.prog 36 #[.slice A 0 c, f] w (RetV w (.int .i64 (-1))) := by
  go_enter Try.func36, Try.ntmps36
  go_wp2
  refine wp_loop_rounds 1 ?_
  rw [rounds_succ]
  go_wp2
  go_ret
  exact RetV.int rfl (Below.refl _ _)
theorem contains_none (A : Option Addr) (c : Nat) (f : Value) (w : World) : Calls Try.prog 28 #[.slice A 0 c, f] w (RetV w (.bool false)) := by
  go_enter Try.func28, Try.ntmps28
  go_wp2_with (go_at_call 36; refine (index_none _ _ _ _).mono ?_; rintro e w1 ⟨rfl, hb1⟩)
  go_ret
  exact RetV.bool rfl hb1

set_option maxHeartbeats 600000 in
theorem span_has (A : Option Addr) (c : Nat) (x : Int) (zs : List (Int × Int)) (w : World) (hmax : zs.length ≤ 1000000000000) (hR : RdR w A zs) :
    Calls Try.prog 15 #[.slice A zs.length c, .int .i64 x] w (RetV w (.bool (hasL zs x))) := by
  have hbA : Below w.heap.size w (w.alloc (.cells #[.int .i64 x] 3)) := (Below.refl _ _).alloc (Nat.le_refl _) _
  have hcon : Calls Try.prog 28 #[.slice A zs.length c, .func (.func 29) #[] #[.pointer (some ⟨w.heap.size, 0, none⟩)]] (w.alloc (.cells #[.int .i64 x] 3)) (RetV (w.alloc (.cells #[.int .i64 x] 3)) (.bool (hasL zs x))) := by
    rcases hR with rfl | ⟨b, off, rfl, hb, hc⟩
    · exact contains_none A c _ _
    · have eg : ∀ args w, (callFunc 29 args).run Try.prog w = .ok (.enter 29 args) w := enters_of Try.func29 (by kernel_rfl) rfl
      have h := AnyQ.slices_ContainsFunc Try.laysCont 2 Try.isAgg33 Try.sizeOf33 encR encR_len (inR x) 29 #[.pointer (some ⟨w.heap.size, 0, none⟩)] eg b off zs.length c zs (w.alloc (.cells #[.int .i64 x] 3))
        (Try.pred29 x w.heap.size _ (by simp) (by simp)) (Nat.le_refl _) (by omega) (by simp; omega) (fun j hj i v hv => (hbA.cell (p := ⟨b, off + j * 2 + i, none⟩) hb).trans (hc j hj i v hv))
      change Calls Try.prog 28 _ _ _ at h
      rw [List.take_length] at h
      exact h
  have HC := Lib.hid hcon
  clear hcon hR
  generalize hasL zs x = r at *
  go_enter Try.func15, Try.ntmps15
  go_wp2_with fail
  refine HC.out.mono ?_
  rintro e w1 ⟨rfl, hb1⟩
  go_wp2
  go_ret
  exact RetV.bool rfl (hbA.trans (hb1.mono hbA.size))

set_option maxHeartbeats 1000000 in
/-- the closure that Normal hands to the sort -/
theorem closure25 (x y : Int × Int) (W : World) : Calls Try.prog 25 #[.agg #[.int .i64 x.1, .int .i64 x.2], .agg #[.int .i64 y.1, .int .i64 y.2]] W fun e w' => e = .returned (.int .i64 (Lib.compareInt x.1 y.1)) ∧ w' = (W.alloc (.cells #[.int .i64 x.1, .int .i64 x.2] 33)).alloc (.cells #[.int .i64 y.1, .int .i64 y.2] 33) := by
  have hcon := fun W' => AnyG.cmp_Compare_int Try.laysCmp x.1 y.1 W'
  change ∀ W', Calls Try.prog 26 _ _ _ at hcon
  generalize Lib.compareInt x.1 y.1 = r at hcon ⊢
  go_enter Try.func25, Try.ntmps25
  go_wp2_with (go_at_call 26; refine (hcon _).mono ?_; rintro e w' ⟨rfl, rfl⟩)
  go_ret
  exact ⟨rfl, rfl⟩

theorem Try.appRs {w : World} {base : Nat} {v : Value} {xs : List (Int × Int)} {ops : Array Oper} {rest : List Oper} {o : Oper} {a : Act} {Q : Exit → Act → World → Prop}
    (hown : OwnR 33 w base v xs) (lo hi : Int) (hgd : o.guard = none) (s x : Operand)
    (ho : o.op = .call { callee := .builtin .append, args := #[s, x], argTypes := #[22, 22] }) (hs : a.eval s = v) (hx : a.eval x = .slice (some ⟨w.heap.size, 0, none⟩) 1 1)
    (hN : xs.length + 1 ≤ 1000000000000) (hbase : base ≤ w.heap.size)
    (h : ∀ A' c' w', OwnR 33 w' base (.slice A' (xs ++ [(lo, hi)]).length c') (xs ++ [(lo, hi)]) → Below base w w' → wpList Try.prog ops Q rest (a.put o.dst (.slice A' (xs ++ [(lo, hi)]).length c')) w') :
    wpList Try.prog ops Q (o :: rest) a (w.alloc (.cells #[.int .i64 lo, .int .i64 hi] 33)) :=
  Try.appR hown lo hi hgd s x ho hs hx hN hbase fun v' w' h1 h2 => by
    obtain ⟨A, c, rfl⟩ := Own.slice h1
    exact h A c w' h1 h2

/-- what Minus's closure leaves: the captured list is xs -/
def AddPost (g base : Nat) (xs : List (Int × Int)) (w : World) (e : Ending) (w' : World) : Prop :=
  e = .returned (.tuple #[]) ∧ ∃ A c, w'.heap[g]? = some (.cells #[.slice A xs.length c] 22 (0, 0)) ∧ OwnR 33 w' base (.slice A xs.length c) xs ∧ Below g w w' ∧ ∀ b, b < base → b ≠ g → w'.heap[b]? = w.heap[b]?

theorem addPost_mk {g base : Nat} {xs : List (Int × Int)} {w w1 : World} {A : Option Addr} {c : Nat} {u : Value} (hg : w.heap[g]? = some (.cells #[u] 22 (0, 0))) (hgb : g < base)
    (hown : OwnR 33 w1 base (.slice A xs.length c) xs) (hb : Below base w w1) : AddPost g base xs w (.returned (.tuple #[])) (w1.setCell ⟨g, 0, none⟩ (.slice A xs.length c)) := by
  have h1 : w1.heap[g]? = some (.cells #[u] 22 (0, 0)) := (hb.block g hgb).trans hg
  refine ⟨rfl, A, c, ?_, ownsRow_setCell_below hown hgb _, (hb.mono (Nat.le_of_lt hgb)).setCell (p := ⟨g, 0, none⟩) (Nat.le_refl _) _, fun b hlt hne => ?_⟩
  · rw [heap_setCell_same w1 g 0 #[u] 22 _ h1]
    simp
  · rw [Below.heap_setCell _ _ _ _ hne]
    exact hb.block b hlt

set_option maxHeartbeats 600000 in
/-- Minus's closure: the range lo, hi is appended to the captured list if it is not empty. -/
theorem closure30 (lo hi : Int) (g : Nat) (base : Nat) (A : Option Addr) (c : Nat) (xs : List (Int × Int)) (w : World) (hx : xs.length + 1 ≤ 1000000000000) (hg : w.heap[g]? = some (.cells #[.slice A xs.length c] 22 (0, 0))) (hgb : g < base) (hbase : base ≤ w.heap.size) (hown : OwnR 33 w base (.slice A xs.length c) xs) :
    Calls Try.prog 30 #[.int .i64 lo, .int .i64 hi, .pointer (some ⟨g, 0, none⟩)] w (AddPost g base (if lo < hi then xs ++ [(lo, hi)] else xs) w) := by
  have hc : w.cell? ⟨g, 0, none⟩ = some (.slice A xs.length c) := by rw [cell_of_row w g 0 _ 22 (0, 0) hg]; rfl
  have hlt : g < w.heap.size := by omega
  by_cases h : lo < hi
  · rw [if_pos h]
    have HG := Lib.hid hg
    have HB := Lib.hid hgb
    clear hg
    go_enter Try.func30, Try.ntmps30
    go_wp2_with (at_builtin; refine Try.appRs hown lo hi rfl _ _ rfl rfl rfl (by omega) (by omega) ?_; clear hown; intro A1 c1 w1 hown1 hb1; have hc1 := (hb1.cell (p := ⟨g, 0, none⟩) hgb).trans hc; have hf1 : w1.frozen? ⟨g, 0, none⟩ = false := (by rw [hb1.frozen (p := ⟨g, 0, none⟩) hgb]; exact frozen_of_row w g 0 _ 22 HG.out); clear hc)
    go_end0
    simpa using addPost_mk HG.out HB.out hown1 hb1
  · rw [if_neg h]
    go_enter Try.func30, Try.ntmps30
    go_wp2
    go_end0
    exact ⟨rfl, A, c, hg, hown, Below.refl _ _, fun _ _ _ => rfl⟩
end Go.Proofs
