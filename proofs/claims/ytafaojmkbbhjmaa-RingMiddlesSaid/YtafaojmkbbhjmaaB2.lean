/- Words for memory, continued: a whole slice appended to a row of the call's own. No program is named here. -/
import Derived.Test.YtafaojmkbbhjmaaBase
namespace Go.Proofs.Mp
open Go.RowKit
section
variable {P : Program} {w : World}

theorem run_append_zero (t ty e : TypeId) (i : TypeInfo) (ht : P.underlying t = some (.slice e)) (hi : P.info? e = some i) (B A : Option Addr) (n m c : Nat) (hle : n ≤ m) :
    (Builtin.append_ #[t, t] ty #[.slice B n m, .slice A 0 c]).run P w = .ok (.slice B n m) w := by
  have h0 : (Builtin.firstCells i.size 0 (.slice A 0 c)).run P w = .ok #[] w := by
    cases A with
    | none => exact run_firstCells_none (P := P) w i.size 0 0 c
    | some a => exact run_firstCells_some (P := P) w i.size 0 a 0 c [] (by simp) (fun j v h => by simp at h)
  cases B <;> simp [Builtin.append_, run_underlying ht, sizeOf, typeInfo, hi, Builtin.lenOf, h0, hle, storeCells]

/-- append(out, x..): the elements that the slice x reads as. -/
theorem Own.wpAll {α : Type} [Inhabited α] {e : TypeId} {k : Nat} {enc : α → List Value} {base : Nat} {v : Value} {xs ys : List α} {o : Oper} {a : Act} {K : Act → World → Prop} {Q : Exit → Act → World → Prop} (t : TypeId) (i : TypeInfo) (z : Value) (bytes : Nat)
    (ht : P.underlying t = some (.slice e)) (hi : P.info? e = some i) (hz : i.zero = some z)
    (hsize : i.size = k) (hby : i.bytes = bytes) (hzs : z.cells.size = k) (hsz : 0 < k) (hbpos : 0 < bytes)
    (hk : ∀ x, (enc x).length = k) (h1 : ∀ x, ∀ u ∈ enc x, u.oneCell' = true) (s x : Operand)
    (ho : o.op = .call { callee := .builtin .append, args := #[s, x], argTypes := #[t, t] })
    (hown : Own e k enc w base v xs) (hs : a.eval s = v) {A : Option Addr} {c : Nat} (hR : Rd k enc w A ys) (hx : a.eval x = .slice A ys.length c)
    (hbytes : (xs.length + ys.length) * bytes ≤ 140737488355328) (hbase : base ≤ w.heap.size)
    (h : ∀ v' w', Own e k enc w' base v' (xs ++ ys) → Below base w w' → K (a.put o.dst v') w') : o.wp P a w K Q := by
  have hle : xs.length + ys.length ≤ (xs.length + ys.length) * bytes := Nat.le_mul_of_pos_right _ hbpos
  have fin : ∀ v' w', w'.ownsRow base e k v' (xs.length + ys.length) (xs.flatMap enc ++ ys.flatMap enc) → w.grownBy w' v.ownBlock → K (a.put o.dst v') w' := by
    intro v' w' ho' hg
    refine h v' w' ?_ ?_
    · unfold Own
      simpa using ho'
    · exact (Below.refl _ _).grown hg hbase (fun j hj => (World.ownsRow.lt hown j hj).1)
  by_cases hn : ys = []
  · subst hn
    simp only [List.length_nil] at hx
    obtain ⟨B, m, rfl, hm⟩ : ∃ B m, v = .slice B xs.length m ∧ xs.length ≤ m := by
      rcases hown.2 with ⟨rfl, h0⟩ | ⟨g, cap, cur, rfl, _, _, hnc, _⟩
      · exact ⟨none, 0, by rw [h0], by omega⟩
      · exact ⟨_, cap, rfl, hnc⟩
    have hr := run_append_zero (P := P) (w := w) t o.type e i ht hi B A xs.length m c hm
    unfold Oper.wp execOp
    simp only [ho, resolve, invoke, builtin, Sem.run_bind, Sem.run_pure, Result.andThen_ok, List.map_toArray, List.map_cons, List.map_nil, hs, hx, hr]
    exact h _ w (by simpa using hown) (Below.refl _ _)
  · obtain ⟨ad, rfl, hc⟩ := Rd.flat hk hsz hR hn
    refine wp_append_own w s x t ho base e i z k bytes ht hi hz hsize hby hzs hsz v xs.length (xs.flatMap enc) hs hown ad ys.length c (ys.flatMap enc) hx (flat_len hk ys) hc ?_ (by unfold maxLen; omega) hbytes hbase ?_
    · intro u hu
      obtain ⟨y, _, hy⟩ := List.mem_flatMap.1 hu
      exact h1 y u hy
    · intro v' w' h2 h3 _
      exact fin v' w' h2 h3
end
end Go.Proofs.Mp
