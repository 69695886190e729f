/- A map from ranges to integers of the call's own, read as a function. -/
import Derived.Test.YtnckglojbhlekaaQ8
import Derived.Maps.Own
import Derived.Maps.OwnOps
import Derived.Maps.OwnSet
import Derived.Maps.Views
import Derived.DeepKeys4
set_option linter.unusedVariables false
set_option linter.unusedSimpArgs false
set_option maxRecDepth 100000
namespace Go.Proofs
open Go.RowKit Go.Proofs.Mp Go.Maps
theorem Try.laidOutX : laidOutB Try.prog = true := by kernel_rfl
theorem Try.wide74 : (match Try.prog.underlying 74 with | some (.array _ _) | some (.struct _) => true | _ => false) = true := by kernel_rfl
theorem Try.row74 : (74 : TypeId) < Try.prog.types.size := of_decide_eq_true (by kernel_rfl)
theorem Try.law74 : Keyed Try.prog 74 := Keyed.of_law (deep_law_laid Try.laidOutX (m := 2) (by omega) Try.row74 (by kernel_rfl) Try.wide74)
theorem Try.cells74 : Try.prog.cellsOf 74 = 2 := by kernel_rfl
theorem Try.key74 : Try.prog.keyType 74 = true := by kernel_rfl
theorem key_some {lo hi : Int} (h1 : (Lit.int .i64 lo).wf = true) (h2 : (Lit.int .i64 hi).wf = true) : ∃ l, keyOf Try.prog 74 (.agg #[.int .i64 lo, .int .i64 hi]) = some l := by
  have hf : (Value.agg #[.int .i64 lo, .int .i64 hi]).formed Try.prog 74 = true := by
    simp [Value.formed, Try.underlying74, Try.cells74]
  unfold keyOf
  rw [Try.underlying74]
  simp only [Try.key74, hf, Bool.and_self, if_true]
  obtain ⟨n, hn⟩ : ∃ n, Try.prog.types.size = n + 1 := ⟨Try.prog.types.size - 1, (Nat.succ_pred_eq_of_pos (Nat.lt_of_le_of_lt (Nat.zero_le _) Try.row74)).symm⟩
  rw [hn]
  have c3 : Try.prog.cellsOf 3 = 1 := by kernel_rfl
  simp [Program.keyLits, Try.underlying74, Try.underlying3, Value.cells, h1, h2, c3, Try.cells74]

/-- a range, as a key -/
def aggR (r : Int × Int) : Value := .agg #[.int .i64 r.1, .int .i64 r.2]
def wfR (r : Int × Int) : Prop := (Lit.int .i64 r.1).wf = true ∧ (Lit.int .i64 r.2).wf = true
noncomputable def keyR (r : Int × Int) : Lit := (keyOf Try.prog 74 (aggR r)).getD (.int .i64 0)
theorem keyR_some {r : Int × Int} (h : wfR r) : keyOf Try.prog 74 (aggR r) = some (keyR r) := by
  obtain ⟨l, hl⟩ := key_some h.1 h.2
  unfold keyR
  rw [show aggR r = .agg #[.int .i64 r.1, .int .i64 r.2] from rfl, hl]
  rfl
theorem keyR_inj {r s : Int × Int} (hr : wfR r) (hs : wfR s) (h : keyR r = keyR s) : r = s := by
  have h1 := keyR_some hr
  rw [h] at h1
  have := Try.law74.inj h1 (keyR_some hs)
  unfold aggR at this
  simp only [Value.agg.injEq, Array.mk.injEq, List.cons.injEq, Value.int.injEq, true_and, and_true] at this
  exact Prod.ext this.1 this.2
theorem keyR_key {r : Int × Int} (h : wfR r) : WideAt.IsKeyLit (keyR r) := Try.law74.key (keyR_some h)
/-- block B is a map of at most N entries from ranges to integers: f -/
def MapR (w : World) (B N : Nat) (f : Int × Int → Option Int) : Prop :=
  ∃ D : DataW Unit, w.ownsMap Try.prog 74 (plainElem Try.prog 3) B (Maps.size D) D ∧ Maps.size D ≤ N ∧
    ∀ r, wfR r → Maps.has D (keyR r) = (f r).isSome ∧ ∀ n, f r = some n → D.atKey (keyR r) (.lit (.int .i64 0)) = .lit (.int .i64 n)
section
variable {w w' : World} {B N : Nat} {f : Int × Int → Option Int}
theorem MapR.lt (h : MapR w B N f) : B < w.heap.size := by obtain ⟨D, h1, _⟩ := h; exact h1.lt
theorem MapR.kept {row : Option Nat} (h : MapR w B N f) (hg : w.grownBy w' row) (hne : some B ≠ row) : MapR w' B N f := by
  obtain ⟨D, h1, r⟩ := h
  exact ⟨D, h1.kept hg hne, r⟩
theorem MapR.below (h : MapR w B N f) {n : Nat} (hb : Below n w w') (hn : B < n) : MapR w' B N f := by
  obtain ⟨D, ⟨es, clock, hh, r⟩, q⟩ := h
  exact ⟨D, ⟨es, clock, (hb.block B hn).trans hh, r⟩, q⟩
theorem MapR.made (w : World) : MapR (w.alloc (.map #[] 0)) w.heap.size 0 (fun _ => none) := by
  refine ⟨.map [], World.ownsMap_made w Try.prog 74 _, Nat.le_refl _, fun r _ => ⟨by simp [Maps.has], fun n h => by cases h⟩⟩
theorem ownsMapR_exact {D : DataW Unit} {n : Nat} (h : w.ownsMap Try.prog 74 (plainElem Try.prog 3) B n D) : w.ownsMap Try.prog 74 (plainElem Try.prog 3) B (Maps.size D) D := by
  obtain ⟨es, clock, hb, F, hs, rfl⟩ := h
  exact ⟨es, clock, hb, F, by simp [Maps.size, length_sorted], rfl⟩
def setR (f : Int × Int → Option Int) (r : Int × Int) (n : Int) : Int × Int → Option Int := fun s => if s = r then some n else f s
theorem MapR.look {ops : Array Oper} {rest : List Oper} {o : Oper} {a : Act} {Q : Exit → Act → World → Prop} (h : MapR w B N f) (hg : o.guard = none) (m x : Operand) (hop : o.op = Op.lookup 70 m x true)
    (hz : (zeroValue 3).run Try.prog w = .ok (.int .i64 0) w) (hm : a.eval m = .map (some B)) (r : Int × Int) (hx : a.eval x = aggR r) (hwf : wfR r)
    (hy : ∀ n, f r = some n → wpList Try.prog ops Q rest (a.put o.dst (.tuple #[.int .i64 n, .bool true])) w) (hno : f r = none → ∀ c, wpList Try.prog ops Q rest (a.put o.dst (.tuple #[.int .i64 c, .bool false])) w) : wpList Try.prog ops Q (o :: rest) a w := by
  obtain ⟨D, h1, h2, h3⟩ := h
  refine wpList_lookup_own_ok_int w hg m x 70 hop 74 3 .i64 Try.law74 Try.underlying70 Try.underlying3 hz B _ D hm h1 (aggR r) (keyR r) hx (keyR_some hwf) ?_
  intro c hc _
  obtain ⟨h4, h5⟩ := h3 r hwf
  rw [h4]
  rcases hf : f r with _ | n
  · exact hno hf c
  · have e := (h5 n hf).symm.trans hc
    have e' : n = c := by simpa using e
    subst e'
    exact hy n hf
theorem MapR.store {ops : Array Oper} {rest : List Oper} {o : Oper} {a : Act} {Q : Exit → Act → World → Prop} (h : MapR w B N f) (hg : o.guard = none) (m x v : Operand) (hop : o.op = Op.mapUpdate 70 m x v)
    (hm : a.eval m = .map (some B)) (r : Int × Int) (y : Int) (hx : a.eval x = aggR r) (hv : a.eval v = .int .i64 y) (hwf : wfR r) (hwy : (Lit.int .i64 y).wf = true) (hN : N < 1000000)
    (hK : ∀ w', MapR w' B (N + 1) (setR f r y) → w.grownBy w' (some B) → wpList Try.prog ops Q rest (a.put o.dst undef) w') : wpList Try.prog ops Q (o :: rest) a w := by
  obtain ⟨D, h1, h2, h3⟩ := h
  refine wpList_mapUpdate_own w hg m x v 70 hop 74 3 Try.law74 Try.underlying70 (plainElem Try.prog 3) B _ D hm h1 (by unfold maxLen; omega) (aggR r) (.int .i64 y) (keyR r) hx hv (keyR_some hwf) (.lit (.int .i64 y)) [] (plainElem_int Try.underlying3 hwy) ?_
  intro w' hw' hg'
  refine hK w' ?_ hg'
  have hT := h1.tidy Try.law74
  have hI := h1.isMap
  have hkr := keyR_key hwf
  refine ⟨_, ownsMapR_exact hw', ?_, fun s hs => ?_⟩
  · rw [size_put hT]
    split <;> omega
  · unfold setR
    by_cases he : s = r
    · subst he
      rw [if_pos rfl, has_put_same hI hkr]
      exact ⟨rfl, fun n hn => by injection hn with hn; rw [← hn, atKey_put_same hI hkr]⟩
    · have hk : keyR s ≠ keyR r := fun e => he (keyR_inj hs hwf e)
      rw [if_neg he, has_put_other hk]
      obtain ⟨h4, h5⟩ := h3 s hs
      exact ⟨h4, fun n hn => by rw [atKey_put_other hk]; exact h5 n hn⟩
end
end Go.Proofs
