/- A map from integers to integers of the call's own, read as a function. No program is named here. -/
import Derived.WalkKit
import Derived.Maps.Own
import Derived.Maps.OwnOps
import Derived.Maps.OwnSet
import Derived.Maps.Views
import Derived.Test.YtoknjlodhohioaaU1
set_option linter.unusedVariables false
set_option linter.unusedSimpArgs false
namespace Go.Proofs.Mp
open Go.RowKit Go.Maps Go.Proofs.Uf

abbrev keyI (x : Int) : Lit := .int .i64 x
/-- block B is a map of at most N entries; its keys are those of 'keys'; at each of these it holds p -/
def MapF (P : Program) (k : TypeId) (w : World) (B N : Nat) (keys : Int → Prop) (p : Int → Int) : Prop :=
  ∃ D : DataW Unit, w.ownsMap P k (plainElem P k) B (Maps.size D) D ∧ Maps.size D ≤ N ∧ (∀ x, Maps.has D (keyI x) = true ↔ keys x) ∧
    ∀ x, keys x → D.atKey (keyI x) (.lit (.int .i64 0)) = .lit (.int .i64 (p x))

section
variable {P : Program} {k t : TypeId} {w w' : World} {B N : Nat} {keys : Int → Prop} {p : Int → Int}
theorem MapF.lt (h : MapF P k w B N keys p) : B < w.heap.size := by obtain ⟨D, h1, _⟩ := h; exact h1.lt
theorem MapF.kept {row : Option Nat} (h : MapF P k w B N keys p) (hg : w.grownBy w' row) (hne : some B ≠ row) : MapF P k w' B N keys p := by
  obtain ⟨D, h1, r⟩ := h
  exact ⟨D, h1.kept hg hne, r⟩
theorem MapF.below (h : MapF P k w B N keys p) {n : Nat} (hb : Below n w w') (hn : B < n) : MapF P k w' B N keys p := by
  obtain ⟨D, ⟨es, clock, hh, r⟩, q⟩ := h
  exact ⟨D, ⟨es, clock, (hb.block B hn).trans hh, r⟩, q⟩
theorem MapF.keys_iff (h : MapF P k w B N keys p) {keys' : Int → Prop} (hk : ∀ x, keys x ↔ keys' x) : MapF P k w B N keys' p := by
  have : keys = keys' := by funext x; exact propext (hk x)
  rwa [← this]
theorem MapF.mono (h : MapF P k w B N keys p) {N' : Nat} (hN : N ≤ N') : MapF P k w B N' keys p := by
  obtain ⟨D, h1, h2, r⟩ := h
  exact ⟨D, h1, Nat.le_trans h2 hN, r⟩
theorem MapF.fn (h : MapF P k w B N keys p) {q : Int → Int} (hq : ∀ x, keys x → p x = q x) : MapF P k w B N keys q := by
  obtain ⟨D, h1, h2, h3, h4⟩ := h
  exact ⟨D, h1, h2, h3, fun x hx => by rw [h4 x hx, hq x hx]⟩
theorem MapF.made (w : World) : MapF P k (w.alloc (.map #[] 0)) w.heap.size 0 (fun _ => False) p := by
  refine ⟨.map [], World.ownsMap_made w P k _, Nat.le_refl _, fun x => ?_, fun x hx => hx.elim⟩
  simp [Maps.has]

theorem ownsMap_exact {D : DataW Unit} {n : Nat} (h : w.ownsMap P k (plainElem P k) B n D) : w.ownsMap P k (plainElem P k) B (Maps.size D) D := by
  obtain ⟨es, clock, hb, F, hs, rfl⟩ := h
  exact ⟨es, clock, hb, F, by simp [Maps.size, length_sorted], rfl⟩

theorem MapF.put (hk : P.underlying k = some (.int .i64)) {D : DataW Unit} (h1 : w.ownsMap P k (plainElem P k) B (Maps.size D) D) (h2 : Maps.size D ≤ N) (h3 : ∀ x, Maps.has D (keyI x) = true ↔ keys x)
    (h4 : ∀ x, keys x → D.atKey (keyI x) (.lit (.int .i64 0)) = .lit (.int .i64 (p x))) {x y : Int} {M n : Nat} (hM : (keys x ∧ N ≤ M) ∨ N + 1 ≤ M) (hw : w'.ownsMap P k (plainElem P k) B n (D.put (keyI x) (.lit (.int .i64 y)))) (hkey : WideAt.IsKeyLit (keyI x)) :
    MapF P k w' B M (fun z => z = x ∨ keys z) (upd p x y) := by
  have hT := h1.tidy (int_keyed hk)
  have hI := h1.isMap
  refine ⟨_, ownsMap_exact hw, ?_, fun z => ?_, fun z hz => ?_⟩
  · rw [size_put hT]
    split
    · rename_i hh
      rcases hM with ⟨_, hM⟩ | hM <;> omega
    · rename_i hh
      rcases hM with ⟨hx, hM⟩ | hM
      · exact absurd ((h3 x).2 hx) hh
      · omega
  · by_cases he : z = x
    · subst he
      rw [has_put_same hI hkey]
      simp
    · rw [has_put_other (by simp [keyI, he]), h3]
      simp [he]
  · by_cases he : z = x
    · subst he
      rw [atKey_put_same hI hkey, upd_same]
    · rw [atKey_put_other (by simp [keyI, he]), upd_ne _ _ _ he]
      exact h4 z (hz.resolve_left he)
end

section
variable {P : Program} {k t : TypeId} {w : World} {B N : Nat} {keys : Int → Prop} {p : Int → Int} {ops : Array Oper} {rest : List Oper} {o : Oper} {a : Act} {Q : Exit → Act → World → Prop}
theorem MapF.look (h : MapF P k w B N keys p) (hg : o.guard = none) (m x : Operand) (hop : o.op = Op.lookup t m x false) (ht : P.underlying t = some (.map k k)) (hk : P.underlying k = some (.int .i64)) (hz : (zeroValue k).run P w = .ok (.int .i64 0) w)
    (hm : a.eval m = .map (some B)) (n : Int) (hx : a.eval x = .int .i64 n) (hwf : (Lit.int .i64 n).wf = true) (hn : keys n) (hK : wpList P ops Q rest (a.put o.dst (.int .i64 (p n))) w) : wpList P ops Q (o :: rest) a w := by
  obtain ⟨D, h1, h2, h3, h4⟩ := h
  refine wpList_lookup_own_int w hg m x t hop k k .i64 (int_keyed hk) ht hk hz B _ D hm h1 (.int .i64 n) (keyI n) hx (keyOf_int_mk hk hwf) ?_
  intro c hc _
  have e := (h4 n hn).symm.trans hc
  have e' : p n = c := by simpa using e
  rw [← e']
  exact hK
theorem MapF.look_ok (h : MapF P k w B N keys p) (hg : o.guard = none) (m x : Operand) (hop : o.op = Op.lookup t m x true) (ht : P.underlying t = some (.map k k)) (hk : P.underlying k = some (.int .i64)) (hz : (zeroValue k).run P w = .ok (.int .i64 0) w)
    (hm : a.eval m = .map (some B)) (n : Int) (hx : a.eval x = .int .i64 n) (hwf : (Lit.int .i64 n).wf = true)
    (hy : keys n → wpList P ops Q rest (a.put o.dst (.tuple #[.int .i64 (p n), .bool true])) w) (hno : ¬ keys n → ∀ c, wpList P ops Q rest (a.put o.dst (.tuple #[.int .i64 c, .bool false])) w) : wpList P ops Q (o :: rest) a w := by
  obtain ⟨D, h1, h2, h3, h4⟩ := h
  refine wpList_lookup_own_ok_int w hg m x t hop k k .i64 (int_keyed hk) ht hk hz B _ D hm h1 (.int .i64 n) (keyI n) hx (keyOf_int_mk hk hwf) ?_
  intro c hc _
  by_cases hn : keys n
  · have e := (h4 n hn).symm.trans hc
    have e' : p n = c := by simpa using e
    rw [← e', (h3 n).2 hn]
    exact hy hn
  · have : Maps.has D (keyI n) = false := by
      rcases hh : Maps.has D (keyI n) with _ | _
      · rfl
      · exact absurd ((h3 n).1 hh) hn
    rw [this]
    exact hno hn c
theorem MapF.store (h : MapF P k w B N keys p) (hg : o.guard = none) (m x v : Operand) (hop : o.op = Op.mapUpdate t m x v) (ht : P.underlying t = some (.map k k)) (hk : P.underlying k = some (.int .i64))
    (hm : a.eval m = .map (some B)) (n y : Int) (hx : a.eval x = .int .i64 n) (hv : a.eval v = .int .i64 y) (hwf : (Lit.int .i64 n).wf = true) (hwy : (Lit.int .i64 y).wf = true) {M : Nat} (hM : (keys n ∧ N ≤ M) ∨ N + 1 ≤ M) (hN : N < maxLen)
    (hK : ∀ w', MapF P k w' B M (fun z => z = n ∨ keys z) (upd p n y) → w.grownBy w' (some B) → wpList P ops Q rest (a.put o.dst undef) w') : wpList P ops Q (o :: rest) a w := by
  obtain ⟨D, h1, h2, h3, h4⟩ := h
  refine wpList_mapUpdate_own w hg m x v t hop k k (int_keyed hk) ht (plainElem P k) B _ D hm h1 (Nat.lt_of_le_of_lt h2 hN) (.int .i64 n) (.int .i64 y) (keyI n) hx hv (keyOf_int_mk hk hwf) (.lit (.int .i64 y)) [] (plainElem_int hk hwy) ?_
  intro w' hw' hg'
  exact hK w' (MapF.put hk h1 h2 h3 h4 hM hw' ((int_keyed hk).key (keyOf_int_mk hk hwf))) hg'
end
end Go.Proofs.Mp
