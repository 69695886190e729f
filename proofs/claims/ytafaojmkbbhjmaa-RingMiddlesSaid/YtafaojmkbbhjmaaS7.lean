import Derived.Test.YtafaojmkbbhjmaaA3
import Derived.Test.YtafaojmkbbhjmaaSPlain
import Derived.Test.YtafaojmkbbhjmaaShelf
set_option linter.unusedVariables false
set_option linter.unusedSimpArgs false
namespace Go.Proofs
open Go.RowKit Go.Proofs.Mp Go.Shelf Go.Lib

theorem Try.infoR : (Try.prog.info? 52).map (fun i => (i.zero, i.size, i.bytes)) = some (some (.agg #[.int .i64 0, .int .i64 0]), 2, 16) := by kernel_rfl

theorem Try.appR {w : World} {base : Nat} {v : Value} {xs : List (Int × Int)} {ops : Array Oper} {rest : List Oper} {o : Oper} {a : Act} {Q : Exit → Act → World → Prop}
    (hown : OwnR 52 w base v xs) (lo hi : Int) (hgd : o.guard = none) (s x : Operand)
    (ho : o.op = .call { callee := .builtin .append, args := #[s, x], argTypes := #[55, 55] }) (hs : a.eval s = v) (hx : a.eval x = .slice (some ⟨w.heap.size, 0, none⟩) 1 1)
    (hN : xs.length + 1 ≤ 1000000000000) (hbase : base ≤ w.heap.size)
    (h : ∀ v' w', OwnR 52 w' base v' (xs ++ [(lo, hi)]) → Below base w w' → wpList Try.prog ops Q rest (a.put o.dst v') w') :
    wpList Try.prog ops Q (o :: rest) a (w.alloc (.cells #[.int .i64 lo, .int .i64 hi] 52)) := by
  obtain ⟨i0, hi0, hz0, hz1, hz2⟩ := info_parts Try.infoR
  exact Own.append1 55 i0 (.agg #[.int .i64 0, .int .i64 0]) 16 Try.underlying55 hi0 hz0 hz1 hz2 rfl (by decide) (by decide) encR_len encR_one hgd s x ho hown hs (lo, hi) hx (by omega) hbase h

theorem Try.stepR {w : World} {base : Nat} {v : Value} {xs : List (Int × Int)} {ops : Array Oper} {o : Oper} {a : Act} {K : Act → World → Prop} {Q : Exit → Act → World → Prop} {E : Prop}
    (hown : OwnR 52 w base v xs) (lo hi : Int) (hgd : o.guard = none) (s x : Operand)
    (ho : o.op = .call { callee := .builtin .append, args := #[s, x], argTypes := #[55, 55] }) (hs : a.eval s = v) (hx : a.eval x = .slice (some ⟨w.heap.size, 0, none⟩) 1 1)
    (hN : xs.length + 1 ≤ 1000000000000) (hbase : base ≤ w.heap.size)
    (h : ∀ v' w', OwnR 52 w' base v' (xs ++ [(lo, hi)]) → Below base w w' → K (a.put o.dst v') w') :
    if Region.wanted o (yielded ops a.tmps) = true then Oper.wp Try.prog o a (w.alloc (.cells #[.int .i64 lo, .int .i64 hi] 52)) K Q else E := by
  obtain ⟨i0, hi0, hz0, hz1, hz2⟩ := info_parts Try.infoR
  exact Own.step1 55 i0 (.agg #[.int .i64 0, .int .i64 0]) 16 Try.underlying55 hi0 hz0 hz1 hz2 rfl (by decide) (by decide) encR_len encR_one hgd s x ho hown hs (lo, hi) hx (by omega) hbase h

set_option maxHeartbeats 1000000 in
/-- the closure that Normal hands to the sort -/
theorem closure25 (x y : Int × Int) (W : World) : Calls Try.prog 79 #[.agg #[.int .i64 x.1, .int .i64 x.2], .agg #[.int .i64 y.1, .int .i64 y.2]] W fun e w' => e = .returned (.int .i64 (Lib.compareInt x.1 y.1)) ∧ w' = (W.alloc (.cells #[.int .i64 x.1, .int .i64 x.2] 52)).alloc (.cells #[.int .i64 y.1, .int .i64 y.2] 52) := by
  have hcon := fun W' => AnyG.cmp_Compare_int Try.laysCmp x.1 y.1 W'
  change ∀ W', Calls Try.prog 80 _ _ _ at hcon
  generalize Lib.compareInt x.1 y.1 = r at hcon ⊢
  go_enter Try.func79, Try.ntmps79
  go_wp2_with (go_at_call 80; refine (hcon _).mono ?_; rintro e w' ⟨rfl, rfl⟩)
  go_ret
  exact ⟨rfl, rfl⟩

end Go.Proofs
