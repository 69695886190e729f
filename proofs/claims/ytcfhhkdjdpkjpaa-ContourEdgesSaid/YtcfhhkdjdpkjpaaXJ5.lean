/- A map from integers of the call's own, read as a function into values of whatever kind; struck keys; a range over it. No program is named here. -/
import Derived.WalkKit
import Derived.Maps.Own
import Derived.Maps.OwnOps
import Derived.Maps.OwnSet
import Derived.Maps.Views
import Derived.Maps.RangeWalk
import Derived.Test.YtcfhhkdjdpkjpaaXJ4
import Derived.Test.YtcfhhkdjdpkjpaaXJ1
set_option linter.unusedVariables false
set_option linter.unusedSimpArgs false
namespace Go.Proofs.Mp
open Go.RowKit Go.Maps

abbrev keyI (x : Int) : Lit := .int .i64 x

/-- an element reads as itself -/
def rawE (v : Value) : Option (DataW Value × List MemPlace) := some (.held v, [])
theorem rawE_inv {v : Value} {d : DataW Value} {ps : List MemPlace} (h : rawE v = some (d, ps)) : d = .held v := by
  unfold rawE at h
  injection h with h
  injection h with h1 h2
  exact h1.symm
def setV (f : Int → Option Value) (n : Int) (v : Value) : Int → Option Value := fun z => if z = n then some v else f z
theorem setV_same (f : Int → Option Value) (n : Int) (v : Value) : setV f n v n = some v := if_pos rfl
theorem setV_ne {f : Int → Option Value} {n z : Int} {v : Value} (h : z ≠ n) : setV f n v z = f z := if_neg h
/-- block B is a map of at most N entries that holds f -/
def MapV (P : Program) (k : TypeId) (w : World) (B N : Nat) (f : Int → Option Value) : Prop :=
  ∃ D : DataW Value, w.ownsMap P k rawE B (Maps.size D) D ∧ Maps.size D ≤ N ∧ (∀ x, Maps.has D (keyI x) = (f x).isSome) ∧ ∀ x z, D.atKey (keyI x) (.held z) = .held ((f x).getD z)

section
variable {P : Program} {k e t : TypeId} {w w' : World} {B N : Nat} {f : Int → Option Value}
theorem MapV.lt (h : MapV P k w B N f) : B < w.heap.size := by obtain ⟨D, h1, _⟩ := h; exact h1.lt
theorem MapV.kept {row : Option Nat} (h : MapV P k w B N f) (hg : w.grownBy w' row) (hne : some B ≠ row) : MapV P k w' B N f := by
  obtain ⟨D, h1, r⟩ := h
  exact ⟨D, h1.kept hg hne, r⟩
theorem MapV.belowN (h : MapV P k w B N f) {n : Nat} (hb : Below n w w') (hn : B < n) : MapV P k w' B N f := by
  obtain ⟨D, ⟨es, clock, hh, r⟩, q⟩ := h
  exact ⟨D, ⟨es, clock, (hb.block B hn).trans hh, r⟩, q⟩
theorem MapV.below (h : MapV P k w B N f) (hb : Below w.heap.size w w') : MapV P k w' B N f := h.belowN hb h.lt
theorem MapV.mono (h : MapV P k w B N f) {N' : Nat} (hN : N ≤ N') : MapV P k w B N' f := by
  obtain ⟨D, h1, h2, r⟩ := h
  exact ⟨D, h1, Nat.le_trans h2 hN, r⟩
theorem MapV.made (w : World) : MapV P k (w.alloc (.map #[] 0)) w.heap.size 0 (fun _ => none) := by
  refine ⟨.map [], World.ownsMap_made w P k _, Nat.le_refl _, fun x => by simp [Maps.has], fun x z => rfl⟩
theorem ownsMapV_exact {D : DataW Value} {n : Nat} (h : w.ownsMap P k rawE B n D) : w.ownsMap P k rawE B (Maps.size D) D := by
  obtain ⟨es, clock, hb, F, hs, rfl⟩ := h
  exact ⟨es, clock, hb, F, by simp [Maps.size, length_sorted], rfl⟩
end

section
variable {P : Program} {k e t : TypeId} {w : World} {B N : Nat} {f : Int → Option Value} {ops : Array Oper} {rest : List Oper} {o : Oper} {a : Act} {Q : Exit → Act → World → Prop}
theorem MapV.run (h : MapV P k w B N f) (ht : P.underlying t = some (.map k e)) (hk : P.underlying k = some (.int .i64)) {z : Value} (hz : (zeroValue e).run P w = .ok z w) (n : Int) (hwf : (Lit.int .i64 n).wf = true) :
    (Instr.lookup t (.map (some B)) (.int .i64 n) false).run P w = .ok ((f n).getD z) w := by
  obtain ⟨D, h1, h2, h3, h4⟩ := h
  obtain ⟨v, ps, hrun, hv⟩ := h1.lookup (int_keyed hk) ht hz (zd := .held z) (zp := []) rfl (keyOf_int_mk hk hwf)
  have e1 := rawE_inv hv
  rw [h4 n z] at e1
  injection e1 with e1
  rw [hrun, e1]
theorem MapV.look (h : MapV P k w B N f) (hg : o.guard = none) (m x : Operand) (hop : o.op = Op.lookup t m x false) (ht : P.underlying t = some (.map k e)) (hk : P.underlying k = some (.int .i64)) {z : Value} (hz : (zeroValue e).run P w = .ok z w)
    (hm : a.eval m = .map (some B)) (n : Int) (hx : a.eval x = .int .i64 n) (hwf : (Lit.int .i64 n).wf = true) {v : Value} (hv : (f n).getD z = v) (hK : wpList P ops Q rest (a.put o.dst v) w) : wpList P ops Q (o :: rest) a w := by
  refine wpList_plain hg fun K' hK' => ?_
  have hrun := h.run ht hk hz n hwf
  rw [hv] at hrun
  unfold Oper.wp
  simp [execOp, hop, hm, hx, hrun, Result.andThen]
  exact hK' _ _ hK
theorem MapV.exec (h : MapV P k w B N f) (m x : Operand) (hop : o.op = Op.lookup t m x false) (ht : P.underlying t = some (.map k e)) (hk : P.underlying k = some (.int .i64)) {z : Value} (hz : (zeroValue e).run P w = .ok z w)
    (hm : a.eval m = .map (some B)) (n : Int) (hx : a.eval x = .int .i64 n) (hwf : (Lit.int .i64 n).wf = true) {v : Value} (hv : (f n).getD z = v) : (execOp a.eval o).run P w = .ok (.value v) w := by
  have hrun := h.run ht hk hz n hwf
  rw [hv] at hrun
  simp [execOp, hop, hm, hx, hrun, Result.andThen]
theorem MapV.look_ok (h : MapV P k w B N f) (hg : o.guard = none) (m x : Operand) (hop : o.op = Op.lookup t m x true) (ht : P.underlying t = some (.map k e)) (hk : P.underlying k = some (.int .i64)) {z : Value} (hz : (zeroValue e).run P w = .ok z w)
    (hm : a.eval m = .map (some B)) (n : Int) (hx : a.eval x = .int .i64 n) (hwf : (Lit.int .i64 n).wf = true) {v : Value} {b : Bool} (hv : (f n).getD z = v) (hb : (f n).isSome = b)
    (hK : wpList P ops Q rest (a.put o.dst (.tuple #[v, .bool b])) w) : wpList P ops Q (o :: rest) a w := by
  obtain ⟨D, h1, h2, h3, h4⟩ := h
  refine wpList_lookup_own_ok w hg m x t hop k e (int_keyed hk) ht rawE hz (.held z) [] rfl B _ D hm h1 (.int .i64 n) (keyI n) hx (keyOf_int_mk hk hwf) ?_
  intro u ps hu
  have e1 := rawE_inv hu
  rw [h4 n z] at e1
  injection e1 with e1
  rw [← e1, hv, h3 n, hb]
  exact hK
theorem MapV.put (hk : P.underlying k = some (.int .i64)) {w' : World} {D : DataW Value} (h1 : w.ownsMap P k rawE B (Maps.size D) D) (h2 : Maps.size D ≤ N) (h3 : ∀ x, Maps.has D (keyI x) = (f x).isSome)
    (h4 : ∀ x z, D.atKey (keyI x) (.held z) = .held ((f x).getD z)) {x : Int} {v : Value} {M n : Nat} (hM : ((f x).isSome = true ∧ N ≤ M) ∨ N + 1 ≤ M) (hw : w'.ownsMap P k rawE B n (D.put (keyI x) (.held v))) (hkey : WideAt.IsKeyLit (keyI x)) :
    MapV P k w' B M (setV f x v) := by
  have hT := h1.tidy (int_keyed hk)
  have hI := h1.isMap
  refine ⟨_, ownsMapV_exact hw, ?_, fun z => ?_, fun z y => ?_⟩
  · rw [size_put hT]
    split
    · rename_i hh
      rcases hM with ⟨_, hM⟩ | hM <;> omega
    · rename_i hh
      rcases hM with ⟨hx, hM⟩ | hM
      · exact absurd ((h3 x).trans hx) hh
      · omega
  · by_cases he : z = x
    · subst he
      rw [has_put_same hI hkey, setV_same]; rfl
    · rw [has_put_other (by simp [keyI, he]), h3, setV_ne he]
  · by_cases he : z = x
    · subst he
      rw [atKey_put_same hI hkey, setV_same]; rfl
    · rw [atKey_put_other (by simp [keyI, he]), setV_ne he]
      exact h4 z y
theorem MapV.store (h : MapV P k w B N f) (hg : o.guard = none) (m x v : Operand) (hop : o.op = Op.mapUpdate t m x v) (ht : P.underlying t = some (.map k e)) (hk : P.underlying k = some (.int .i64))
    (hm : a.eval m = .map (some B)) (n : Int) (y : Value) (hx : a.eval x = .int .i64 n) (hv : a.eval v = y) (hwf : (Lit.int .i64 n).wf = true) {M : Nat} (hM : ((f n).isSome = true ∧ N ≤ M) ∨ N + 1 ≤ M) (hN : N < maxLen)
    (hK : ∀ w', MapV P k w' B M (setV f n y) → w.grownBy w' (some B) → wpList P ops Q rest (a.put o.dst undef) w') : wpList P ops Q (o :: rest) a w := by
  obtain ⟨D, h1, h2, h3, h4⟩ := h
  refine wpList_mapUpdate_own w hg m x v t hop k e (int_keyed hk) ht rawE B _ D hm h1 (Nat.lt_of_le_of_lt h2 hN) (.int .i64 n) y (keyI n) hx hv (keyOf_int_mk hk hwf) (.held y) [] rfl ?_
  intro w' hw' hg'
  exact hK w' (MapV.put hk h1 h2 h3 h4 hM hw' ((int_keyed hk).key (keyOf_int_mk hk hwf))) hg'
theorem MapV.wpStore {K : Act → World → Prop} (h : MapV P k w B N f) (m x v : Operand) (hop : o.op = Op.mapUpdate t m x v) (ht : P.underlying t = some (.map k e)) (hk : P.underlying k = some (.int .i64))
    (hm : a.eval m = .map (some B)) (n : Int) (y : Value) (hx : a.eval x = .int .i64 n) (hv : a.eval v = y) (hwf : (Lit.int .i64 n).wf = true) {M : Nat} (hM : ((f n).isSome = true ∧ N ≤ M) ∨ N + 1 ≤ M) (hN : N < maxLen)
    (hK : ∀ w', MapV P k w' B M (setV f n y) → w.grownBy w' (some B) → K (a.put o.dst undef) w') : Oper.wp P o a w K Q := by
  obtain ⟨D, h1, h2, h3, h4⟩ := h
  obtain ⟨w', hrun, r1, r2⟩ := h1.update (int_keyed hk) ht (Nat.lt_of_le_of_lt h2 hN) (keyOf_int_mk hk hwf) (val := y) (d := .held y) (ps := []) rfl
  unfold Oper.wp
  simp [execOp, hop, hm, hx, hv, hrun, Result.andThen]
  exact hK _ (MapV.put hk h1 h2 h3 h4 hM r1 ((int_keyed hk).key (keyOf_int_mk hk hwf))) r2
theorem MapV.congr {g : Int → Option Value} (h : MapV P k w B N f) (e : ∀ x, f x = g x) : MapV P k w B N g := by
  have : f = g := funext e
  rwa [← this]
def strV (f : Int → Option Value) (n : Int) : Int → Option Value := fun z => if z = n then none else f z
theorem MapV.strike (h : MapV P k w B N f) (hg : o.guard = none) (m x : Operand) (hop : o.op = Op.call { callee := Callee.builtin Builtin.delete, args := #[m, x], argTypes := #[t, k] }) (ht : P.underlying t = some (.map k e)) (hk : P.underlying k = some (.int .i64))
    (hm : a.eval m = .map (some B)) (n : Int) (hx : a.eval x = .int .i64 n) (hwf : (Lit.int .i64 n).wf = true)
    (hK : ∀ w', MapV P k w' B N (strV f n) → w.grownBy w' (some B) → wpList P ops Q rest (a.put o.dst (.tuple #[])) w') : wpList P ops Q (o :: rest) a w := by
  obtain ⟨D, h1, h2, h3, h4⟩ := h
  refine wpList_delete_own w hg m x t k hop e (int_keyed hk) ht rawE B _ D hm h1 (.int .i64 n) (keyI n) hx (keyOf_int_mk hk hwf) ?_
  intro w' hw' hg'
  have hT := h1.tidy (int_keyed hk)
  refine hK w' ⟨_, ownsMapV_exact hw', ?_, fun z => ?_, fun z y => ?_⟩ hg'.grown
  · have := size_del (k := keyI n) hT
    split at this <;> omega
  · unfold strV
    by_cases he : z = n
    · subst he
      rw [if_pos rfl, has_del_same]; rfl
    · rw [if_neg he, has_del_other (by simp [keyI, he])]
      exact h3 z
  · unfold strV
    by_cases he : z = n
    · subst he
      rw [if_pos rfl, atKey_del_same]; rfl
    · rw [if_neg he, atKey_del_other (by simp [keyI, he])]
      exact h4 z y
/-- block r ranges over the map in block B, which holds f; 'left x': the entry at x is still to come -/
def RngV (P : Program) (k : TypeId) (w : World) (B r n : Nat) (f : Int → Option Value) (left : Int → Bool) (cnt : Nat) : Prop :=
  ∃ (D : DataW Value) (lf : Lit → Bool), w.ranges P k rawE B r n D lf cnt ∧ (∀ x, lf (keyI x) = left x) ∧ Maps.size D ≤ n ∧ (∀ x, Maps.has D (keyI x) = (f x).isSome) ∧ ∀ x z, D.atKey (keyI x) (.held z) = .held ((f x).getD z)
theorem RngV.map {r n cnt : Nat} {left : Int → Bool} (h : RngV P k w B r n f left cnt) : MapV P k w B n f := by
  obtain ⟨D, lf, h1, h2, h3, h4, h5⟩ := h
  exact ⟨D, ownsMapV_exact h1.owns, h3, h4, h5⟩
theorem RngV.kept {w' : World} {r n cnt : Nat} {left : Int → Bool} {row : Option Nat} (h : RngV P k w B r n f left cnt) (hg : w.grownBy w' row) (h1 : some B ≠ row) (h2 : some r ≠ row) : RngV P k w' B r n f left cnt := by
  obtain ⟨D, lf, g1, g2⟩ := h
  exact ⟨D, lf, g1.kept hg h1 h2, g2⟩
theorem RngV.left_eq {r n cnt : Nat} {left : Int → Bool} (h : RngV P k w B r n f left cnt) : w.rangeLeft B r = cnt := by
  obtain ⟨D, lf, g1, g2⟩ := h
  exact g1.left_eq
theorem RngV.lt {r n cnt : Nat} {left : Int → Bool} (h : RngV P k w B r n f left cnt) : r < w.heap.size := by
  obtain ⟨D, lf, g1, g2⟩ := h
  exact g1.lt
theorem MapV.range (h : MapV P k w B N f) (hg : o.guard = none) (m : Operand) (hop : o.op = Op.range t m) (ht : P.underlying t = some (.map k e)) (hk : P.underlying k = some (.int .i64)) (hm : a.eval m = .map (some B))
    (hK : ∀ w' n cnt, RngV P k w' B w.heap.size n f (fun x => (f x).isSome) cnt → cnt ≤ N → w.grownBy w' none → w'.heap.size = w.heap.size + 1 → wpList P ops Q rest (a.put o.dst (.pointer (some ⟨w.heap.size, 0, none⟩))) w') : wpList P ops Q (o :: rest) a w := by
  obtain ⟨D, h1, h2, h3, h4⟩ := h
  refine wpList_range_own w hg m t hop k e (int_keyed hk) ht rawE B _ D hm h1 ?_
  intro w' hr hg' hs
  exact hK w' _ _ ⟨D, _, hr, fun x => h3 x, Nat.le_refl _, h3, h4⟩ h2 hg' hs
theorem RngV.next {r n cnt : Nat} {left : Int → Bool} (h : RngV P k w B r n f left cnt) (hg : o.guard = none) (it : Operand) (hop : o.op = Op.next it false) (hk : P.underlying k = some (.int .i64)) (hit : a.eval it = .pointer (some ⟨r, 0, none⟩))
    (hDone : (∀ x, left x = false) → wpList P ops Q rest (a.put o.dst (.tuple #[.bool false])) w)
    (hMore : ∀ (x : Int) (v : Value) (w' : World) (cnt' : Nat), left x = true → f x = some v → (Lit.int .i64 x).wf = true → RngV P k w' B r n f (fun z => left z && !decide (z = x)) cnt' → cnt' < cnt → w.grownBy w' (some r) → w'.heap.size = w.heap.size →
      (Instr.entry (.pointer (some ⟨r, 0, none⟩))).run P w' = .ok (.tuple #[.int .i64 x, v]) w' → wpList P ops Q rest (a.put o.dst (.tuple #[.bool true, .int .i64 x, v])) w')
    (hsub : ∀ x, left x = true → (f x).isSome = true) : wpList P ops Q (o :: rest) a w := by
  obtain ⟨D, lf, h1, h2, h3, h4, h5⟩ := h
  refine wpList_next_ranges w hg it hop k (int_keyed hk) rawE (Value.int .i64) (fun v : Value => v) (fun key kl hkey => by obtain ⟨x, rfl, _⟩ := Maps.keyOf_int_inv hk hkey; exact ⟨x, rfl⟩) (fun v y hv => ⟨v, rfl⟩) B r n D lf cnt hit h1 ?_ ?_
  · intro _ hl
    exact hDone fun x => by rw [← h2 x]; exact hl _
  · intro x v kl y w' cnt' hkey hlk hv hat hrg hlt hgr hsz hen
    obtain ⟨x', ex, rfl, hwx⟩ := Maps.keyOf_int_inv hk hkey
    injection ex with _ ex
    subst ex
    have hl : left x = true := by rw [← h2 x]; exact hlk
    obtain ⟨u, hu⟩ := Option.isSome_iff_exists.1 (hsub x hl)
    have e1 := rawE_inv hv
    have e2 := h5 x v
    rw [hat (.held v), hu] at e2
    rw [e1] at e2
    injection e2 with e2
    have e3 : f x = some v := by rw [hu]; exact congrArg some e2.symm
    refine hMore x v w' cnt' hl e3 hwx ⟨D, _, hrg, fun z => ?_, h3, h4, h5⟩ hlt hgr hsz hen
    rw [h2 z]
    congr 1
    have : (keyI z).sameKey (.int .i64 x) = decide (z = x) := by
      by_cases he : z = x
      · subst he; simp [keyI, Lit.sameKey]
      · rw [sameKey_ne (by simp [keyI, he])]; simp [he]
    rw [this]
end
end Go.Proofs.Mp
/- The closures of successors. -/
set_option linter.unusedVariables false
set_option linter.unusedSimpArgs false
namespace Go.Proofs
open Go.RowKit Go.Proofs.Mp

theorem below_gr {w w' : World} (h : Below w.heap.size w w') : w.grownBy w' none := ⟨h.os, h.tape, h.output, h.size, fun k hk _ => h.block k hk⟩
theorem grown_drewN (w : World) (n : Nat) (row : Option Nat) : w.grownBy (w.drewN n) row := ⟨rfl, rfl, rfl, Nat.le_refl _, fun _ _ _ => rfl⟩
theorem grown_none {w w' : World} {row : Option Nat} (h : w.grownBy w' none) : w.grownBy w' row := ⟨h.os, h.tape, h.output, h.size, fun k hk _ => h.block k hk (by simp)⟩
theorem grown_below {w w' : World} {row : Option Nat} (h : Below w.heap.size w w') : w.grownBy w' row := grown_none (below_gr h)

set_option maxRecDepth 100000 in
set_option maxHeartbeats 1000000 in
theorem con_above (t : Ht) (level : Int) (i g l : Nat) (w : World) (hro : RowH w g t) (hl : w.cell? ⟨l, 0, none⟩ = some (.int .i64 level)) (hll : l < w.heap.size) (hi : i < t.v.length) (hR : RdI w t.a t.v) :
    Calls Try.prog 77 #[.int .i64 i, .pointer (some ⟨g, 0, none⟩), .pointer (some ⟨l, 0, none⟩)] w (RetV w (.bool (abv t level i))) := by
  obtain ⟨b, off, hA, hbb, hcc⟩ := RdI.all hR (by omega)
  have g1 := hcc w (Below.refl _ _) i hi
  have HP := Lib.hid (show abv t level i = decide (level ≤ t.v[i]!) from rfl)
  generalize abv t level i = r at *
  obtain ⟨d0, d1, d2, d3, d4, d5⟩ := hro.cells
  obtain ⟨x, y, tw, th, st, A, c, v⟩ := t
  dsimp only at *
  subst hA
  obtain ⟨z, hz⟩ : ∃ z, v[i]! = z := ⟨_, rfl⟩
  rw [hz] at g1 HP
  have hil : (i : Int) < (v.length : Int) := by omega
  have hi0 : (0 : Int) ≤ (i : Int) := by omega
  clear hz hcc hR hro
  go_enter Try.func77, Try.ntmps77
  go_upto_region 1 with fail
  go_quiet (fail)
  go_wp2
  go_ret
  exact ⟨by rw [HP.out]; rfl, below_drewN (Below.refl _ _) _⟩

theorem Try.index99 (x y z : Int) (W : World) : (Instr.index 99 (.agg #[.int .i64 x, .int .i64 y, .int .i64 z]) (.int .i64 0)).run Try.prog W = .ok (.int .i64 x) W ∧ (Instr.index 99 (.agg #[.int .i64 x, .int .i64 y, .int .i64 z]) (.int .i64 1)).run Try.prog W = .ok (.int .i64 y) W ∧ (Instr.index 99 (.agg #[.int .i64 x, .int .i64 y, .int .i64 z]) (.int .i64 2)).run Try.prog W = .ok (.int .i64 z) W := by
  refine ⟨?_, ?_, ?_⟩ <;> simp [Instr.index, go_sem, asAgg]
/-- what a side of a triangle adds: the edge to the first one of a step, or to the second -/
def side1 (ab : Nat → Bool) (W : Nat) (s : Nat × Nat × Bool) (a b : Nat) : Nat × Nat × Bool :=
  if (ab a && !ab b) = true then (numE W a b, s.2.1, true) else if (!ab a && ab b) = true then (s.1, numE W a b, s.2.2) else s
def stt (ab : Nat → Bool) (W a b c : Nat) : Nat → Nat × Nat × Bool
  | 0 => (0, 0, false)
  | 1 => side1 ab W (0, 0, false) a b
  | 2 => side1 ab W (side1 ab W (0, 0, false) a b) b c
  | _ => side1 ab W (side1 ab W (side1 ab W (0, 0, false) a b) b c) c a
/-- the map with a step more -/
def addM (f : Int → Option Value) : List (Nat × Nat) → Int → Option Value
  | [] => f
  | p :: ps => addM (setV f (p.1 : Int) (.int .i64 (p.2 : Int))) ps
theorem stt_tri (ab : Nat → Bool) (W a b c : Nat) : (if (stt ab W a b c 3).2.2 = true then [((stt ab W a b c 3).1, (stt ab W a b c 3).2.1)] else []) = triS (ab a) (ab b) (ab c) (numE W a b) (numE W b c) (numE W c a) := by
  unfold stt side1 triS
  cases ab a <;> cases ab b <;> cases ab c <;> simp
theorem numE_le (W a b : Nat) (ha : a ≤ 4096) (hb : b ≤ 4096) : numE W a b ≤ 12290 := by unfold numE; split <;> (try split) <;> omega

set_option maxRecDepth 100000 in
set_option maxHeartbeats 8000000 in
theorem con_add (t : Ht) (W : Nat) (level : Int) (a b c g l p1 p3 B N : Nat) (f : Int → Option Value) (w : World) (hW : t.w = (W : Int)) (hWm : W ≤ 64) (hvl : t.v.length ≤ 4096) (ha : a < t.v.length) (hb : b < t.v.length) (hc : c < t.v.length)
    (hro : RowH w g t) (hl : w.cell? ⟨l, 0, none⟩ = some (.int .i64 level)) (hll : l < w.heap.size) (h1 : w.cell? ⟨p1, 0, none⟩ = some (.func (.func 77) #[] #[.pointer (some ⟨g, 0, none⟩), .pointer (some ⟨l, 0, none⟩)])) (hl1 : p1 < w.heap.size)
    (h3 : w.cell? ⟨p3, 0, none⟩ = some (.map (some B))) (hl3 : p3 < w.heap.size) (hM : MapV Try.prog 3 w B N f) (hN : N ≤ 100000) (hR : RdI w t.a t.v) :
    Calls Try.prog 78 #[.agg #[.int .i64 a, .int .i64 b, .int .i64 c], .pointer (some ⟨p1, 0, none⟩), .pointer (some ⟨g, 0, none⟩), .pointer (some ⟨p3, 0, none⟩)] w (fun e w' => e = .returned (.tuple #[]) ∧ MapV Try.prog 3 w' B (N + 1) (addM f (triS (abv t level a) (abv t level b) (abv t level c) (numE W a b) (numE W b c) (numE W c a))) ∧ w.grownBy w' (some B)) := by
  have hB0 := bw1 w (.cells #[.int .i64 a, .int .i64 b, .int .i64 c] 99)
  have HTR := Lib.hid (stt_tri (abv t level) W a b c)
  have HS1 := Lib.hid (show stt (abv t level) W a b c 1 = side1 (abv t level) W (stt (abv t level) W a b c 0) a b from rfl)
  have HS2 := Lib.hid (show stt (abv t level) W a b c 2 = side1 (abv t level) W (stt (abv t level) W a b c 1) b c from rfl)
  have HS3 := Lib.hid (show stt (abv t level) W a b c 3 = side1 (abv t level) W (stt (abv t level) W a b c 2) c a from rfl)
  have HS0 := Lib.hid (show stt (abv t level) W a b c 0 = (0, 0, false) from rfl)
  have HSD := Lib.hid (show ∀ s x y, side1 (abv t level) W s x y = if (abv t level x && !abv t level y) = true then (numE W x y, s.2.1, true) else if (!abv t level x && abv t level y) = true then (s.1, numE W x y, s.2.2) else s from fun _ _ _ => rfl)
  have cA := Lib.hid fun (i : Nat) (hi : i < t.v.length) (W' : World) (hb : Below w.heap.size w W') => con_above t level i g l W' (hro.below hb) ((hb.cell (p := ⟨l, 0, none⟩) hll).trans hl) (Nat.lt_of_lt_of_le hll hb.size) hi (hR.below hb)
  have cN := Lib.hid fun (i j : Nat) (hi : i < t.v.length) (hj : j < t.v.length) (W' : World) => con_number t W i j W' hW (by omega) (by omega) (by omega)
  have HNL := Lib.hid fun (x y : Nat) (hx : x < t.v.length) (hy : y < t.v.length) => numE_le W x y (by omega) (by omega)
  have HX := Lib.hid fun (W' : World) (hb : Below (w.alloc (.cells #[.int .i64 a, .int .i64 b, .int .i64 c] 99)).heap.size (w.alloc (.cells #[.int .i64 a, .int .i64 b, .int .i64 c] 99)) W') =>
    (show RowH W' g t ∧ W'.cell? ⟨p1, 0, none⟩ = some (.func (.func 77) #[] #[.pointer (some ⟨g, 0, none⟩), .pointer (some ⟨l, 0, none⟩)]) ∧ W'.cell? ⟨p3, 0, none⟩ = some (.map (some B)) ∧ MapV Try.prog 3 W' B N f ∧
      W'.cell? ⟨w.heap.size, 0, none⟩ = some (.int .i64 a) ∧ W'.cell? ⟨w.heap.size, 1, none⟩ = some (.int .i64 b) ∧ W'.cell? ⟨w.heap.size, 2, none⟩ = some (.int .i64 c) from by
      have hb2 := hB0.trans (hb.mono hB0.size)
      have hcell := heap_alloc_new w (.cells #[.int .i64 a, .int .i64 b, .int .i64 c] 99)
      have hz : w.heap.size < (w.alloc (.cells #[.int .i64 a, .int .i64 b, .int .i64 c] 99)).heap.size := by simp
      refine ⟨hro.below hb2, (hb2.cell (p := ⟨p1, 0, none⟩) hl1).trans h1, (hb2.cell (p := ⟨p3, 0, none⟩) hl3).trans h3, hM.below hb2, ?_, ?_, ?_⟩
      · exact (hb.cell (p := ⟨w.heap.size, 0, none⟩) hz).trans (by rw [cell_of_row _ _ _ _ _ _ hcell]; rfl)
      · exact (hb.cell (p := ⟨w.heap.size, 1, none⟩) hz).trans (by rw [cell_of_row _ _ _ _ _ _ hcell]; rfl)
      · exact (hb.cell (p := ⟨w.heap.size, 2, none⟩) hz).trans (by rw [cell_of_row _ _ _ _ _ _ hcell]; rfl))
  have hix := fun W' => Try.index99 (a : Int) (b : Int) (c : Int) W'
  have hmk : maxLen = 9223372036854775807 := rfl
  have hu89 := Try.underlying89
  have hu3 := Try.underlying3
  have hag : aggH t = .agg (celH t) := rfl
  generalize triS (abv t level a) (abv t level b) (abv t level c) (numE W a b) (numE W b c) (numE W c a) = res at *
  generalize stt (abv t level) W a b c = S at *
  generalize side1 (abv t level) W = sd at *
  generalize numE W = nm at *
  generalize abv t level = ab at *
  obtain ⟨x, y, tw, th, st, A, cc, v⟩ := t
  unfold aggH celH at *
  dsimp only at *
  clear hro hl h1 h3 hM hR hll hl1 hl3 hag
  subst hW
  have HB0 := Lib.hid hB0
  clear hB0
  go_enter Try.func78, Try.ntmps78
  go_upto_block 0 with fail
  generalize (w.alloc (.cells #[.int .i64 a, .int .i64 b, .int .i64 c] 99)) = w0 at *
  go_wp2_with fail
  go_loopw [5, 6, 7, 12] (fun s5 s6 s7 i wr => ∃ k : Nat, k ≤ 3 ∧ i = .int .i64 k ∧ s5 = .int .i64 (S k).1 ∧ s6 = .int .i64 (S k).2.1 ∧ s7 = .bool (S k).2.2 ∧ Below w0.heap.size w0 wr) (fun _ _ _ i _ => 3 - (intOf i).toNat)
  case atStart => exact ⟨0, by omega, rfl, by rw [HS0.out]; rfl, by rw [HS0.out]; rfl, by rw [HS0.out], Below.refl _ _⟩
  case round =>
    obtain ⟨k, hk, rfl, rfl, rfl, rfl, k0⟩ := hrel
    rcases (by omega : k = 0 ∨ k = 1 ∨ k = 2 ∨ k = 3) with rfl | rfl | rfl | rfl
    · skip
      have HSK := Lib.hid (HS1.out.trans (HSD.out _ _ _))
      have hixk := fun W' => (hix W').1
      rw [show ((0 : Nat) : Int) = 0 from rfl]
      obtain ⟨⟨s1, s2, s3⟩, hs⟩ : ∃ s, S 0 = s := ⟨_, rfl⟩
      rw [hs] at HSK ⊢
      clear hs
      dsimp only at HSK ⊢
      have cX := Lib.hid fun W' hq => cA.out a ha W' hq
      have cY := Lib.hid fun W' hq => cA.out b hb W' hq
      have cZ := Lib.hid fun W' => cN.out a b ha hb W'
      obtain ⟨X, hX⟩ : ∃ X, ab a = X := ⟨_, rfl⟩
      obtain ⟨Y, hY⟩ : ∃ Y, ab b = Y := ⟨_, rfl⟩
      rw [hX] at cX HSK
      rw [hY] at cY HSK
      clear hX hY
      obtain ⟨hro, d1, d3, hm, e0, e1, e2⟩ := HX.out _ k0
      obtain ⟨r0, r1, r2, r3, r4, r5⟩ := hro.cells
      dsimp only at r0 r1 r2 r3 r4 r5
      clear hro hm
      cases X
      · cases Y
        · skip
          go_wp2_with fail
          refine (cX.out _ (HB0.out.trans (k0.mono HB0.out.size))).mono ?_
          rintro e w4 ⟨rfl, hb'⟩
          replace k0 := k0.trans (hb'.mono k0.size)
          clear hb'
          clear d1 d3 e0 e1 e2 r0 r1 r2 r3 r4 r5
          obtain ⟨hro, d1, d3, hm, e0, e1, e2⟩ := HX.out _ k0
          obtain ⟨r0, r1, r2, r3, r4, r5⟩ := hro.cells
          dsimp only at r0 r1 r2 r3 r4 r5
          clear hro hm
          go_wp2_with fail
          refine (cX.out _ (HB0.out.trans (k0.mono HB0.out.size))).mono ?_
          rintro e w5 ⟨rfl, hb'⟩
          replace k0 := k0.trans (hb'.mono k0.size)
          clear hb'
          clear d1 d3 e0 e1 e2 r0 r1 r2 r3 r4 r5
          obtain ⟨hro, d1, d3, hm, e0, e1, e2⟩ := HX.out _ k0
          obtain ⟨r0, r1, r2, r3, r4, r5⟩ := hro.cells
          dsimp only at r0 r1 r2 r3 r4 r5
          clear hro hm
          go_wp2_with fail
          refine (cY.out _ (HB0.out.trans (k0.mono HB0.out.size))).mono ?_
          rintro e w6 ⟨rfl, hb'⟩
          replace k0 := k0.trans (hb'.mono k0.size)
          clear hb'
          clear d1 d3 e0 e1 e2 r0 r1 r2 r3 r4 r5
          obtain ⟨hro, d1, d3, hm, e0, e1, e2⟩ := HX.out _ k0
          obtain ⟨r0, r1, r2, r3, r4, r5⟩ := hro.cells
          dsimp only at r0 r1 r2 r3 r4 r5
          clear hro hm
          have HK := Lib.hid k0
          have HSK2 := Lib.hid (HSK.out.trans (show _ = (s1, s2, s3) from by simp))
          clear k0 HSK d1 d3 e0 e1 e2 r0 r1 r2 r3 r4 r5
          go_wp2
          go_roundw
          case rel => exact ⟨1, by omega, by go_num, by rw [HSK2.out], by rw [HSK2.out], by rw [HSK2.out], HK.out⟩
          case measure => simp [intOf]
        · skip
          go_wp2_with fail
          refine (cX.out _ (HB0.out.trans (k0.mono HB0.out.size))).mono ?_
          rintro e w7 ⟨rfl, hb'⟩
          replace k0 := k0.trans (hb'.mono k0.size)
          clear hb'
          clear d1 d3 e0 e1 e2 r0 r1 r2 r3 r4 r5
          obtain ⟨hro, d1, d3, hm, e0, e1, e2⟩ := HX.out _ k0
          obtain ⟨r0, r1, r2, r3, r4, r5⟩ := hro.cells
          dsimp only at r0 r1 r2 r3 r4 r5
          clear hro hm
          go_wp2_with fail
          refine (cX.out _ (HB0.out.trans (k0.mono HB0.out.size))).mono ?_
          rintro e w8 ⟨rfl, hb'⟩
          replace k0 := k0.trans (hb'.mono k0.size)
          clear hb'
          clear d1 d3 e0 e1 e2 r0 r1 r2 r3 r4 r5
          obtain ⟨hro, d1, d3, hm, e0, e1, e2⟩ := HX.out _ k0
          obtain ⟨r0, r1, r2, r3, r4, r5⟩ := hro.cells
          dsimp only at r0 r1 r2 r3 r4 r5
          clear hro hm
          go_wp2_with fail
          refine (cY.out _ (HB0.out.trans (k0.mono HB0.out.size))).mono ?_
          rintro e w9 ⟨rfl, hb'⟩
          replace k0 := k0.trans (hb'.mono k0.size)
          clear hb'
          clear d1 d3 e0 e1 e2 r0 r1 r2 r3 r4 r5
          obtain ⟨hro, d1, d3, hm, e0, e1, e2⟩ := HX.out _ k0
          obtain ⟨r0, r1, r2, r3, r4, r5⟩ := hro.cells
          dsimp only at r0 r1 r2 r3 r4 r5
          clear hro hm
          go_wp2_with fail
          refine (cZ.out _).mono ?_
          rintro e w10 ⟨rfl, hb'⟩
          replace k0 := k0.trans (hb'.mono k0.size)
          clear hb'
          clear d1 d3 e0 e1 e2 r0 r1 r2 r3 r4 r5
          obtain ⟨hro, d1, d3, hm, e0, e1, e2⟩ := HX.out _ k0
          obtain ⟨r0, r1, r2, r3, r4, r5⟩ := hro.cells
          dsimp only at r0 r1 r2 r3 r4 r5
          clear hro hm
          have HK := Lib.hid k0
          have HSK2 := Lib.hid (HSK.out.trans (show _ = (s1, nm a b, s3) from by simp))
          clear k0 HSK d1 d3 e0 e1 e2 r0 r1 r2 r3 r4 r5
          go_wp2
          go_roundw
          case rel => exact ⟨1, by omega, by go_num, by rw [HSK2.out], by rw [HSK2.out], by rw [HSK2.out], HK.out⟩
          case measure => simp [intOf]
      · cases Y
        · skip
          go_wp2_with fail
          refine (cX.out _ (HB0.out.trans (k0.mono HB0.out.size))).mono ?_
          rintro e w11 ⟨rfl, hb'⟩
          replace k0 := k0.trans (hb'.mono k0.size)
          clear hb'
          clear d1 d3 e0 e1 e2 r0 r1 r2 r3 r4 r5
          obtain ⟨hro, d1, d3, hm, e0, e1, e2⟩ := HX.out _ k0
          obtain ⟨r0, r1, r2, r3, r4, r5⟩ := hro.cells
          dsimp only at r0 r1 r2 r3 r4 r5
          clear hro hm
          go_wp2_with fail
          refine (cY.out _ (HB0.out.trans (k0.mono HB0.out.size))).mono ?_
          rintro e w12 ⟨rfl, hb'⟩
          replace k0 := k0.trans (hb'.mono k0.size)
          clear hb'
          clear d1 d3 e0 e1 e2 r0 r1 r2 r3 r4 r5
          obtain ⟨hro, d1, d3, hm, e0, e1, e2⟩ := HX.out _ k0
          obtain ⟨r0, r1, r2, r3, r4, r5⟩ := hro.cells
          dsimp only at r0 r1 r2 r3 r4 r5
          clear hro hm
          go_wp2_with fail
          refine (cZ.out _).mono ?_
          rintro e w13 ⟨rfl, hb'⟩
          replace k0 := k0.trans (hb'.mono k0.size)
          clear hb'
          clear d1 d3 e0 e1 e2 r0 r1 r2 r3 r4 r5
          obtain ⟨hro, d1, d3, hm, e0, e1, e2⟩ := HX.out _ k0
          obtain ⟨r0, r1, r2, r3, r4, r5⟩ := hro.cells
          dsimp only at r0 r1 r2 r3 r4 r5
          clear hro hm
          have HK := Lib.hid k0
          have HSK2 := Lib.hid (HSK.out.trans (show _ = (nm a b, s2, true) from by simp))
          clear k0 HSK d1 d3 e0 e1 e2 r0 r1 r2 r3 r4 r5
          go_wp2
          go_roundw
          case rel => exact ⟨1, by omega, by go_num, by rw [HSK2.out], by rw [HSK2.out], by rw [HSK2.out], HK.out⟩
          case measure => simp [intOf]
        · skip
          go_wp2_with fail
          refine (cX.out _ (HB0.out.trans (k0.mono HB0.out.size))).mono ?_
          rintro e w14 ⟨rfl, hb'⟩
          replace k0 := k0.trans (hb'.mono k0.size)
          clear hb'
          clear d1 d3 e0 e1 e2 r0 r1 r2 r3 r4 r5
          obtain ⟨hro, d1, d3, hm, e0, e1, e2⟩ := HX.out _ k0
          obtain ⟨r0, r1, r2, r3, r4, r5⟩ := hro.cells
          dsimp only at r0 r1 r2 r3 r4 r5
          clear hro hm
          go_wp2_with fail
          refine (cY.out _ (HB0.out.trans (k0.mono HB0.out.size))).mono ?_
          rintro e w15 ⟨rfl, hb'⟩
          replace k0 := k0.trans (hb'.mono k0.size)
          clear hb'
          clear d1 d3 e0 e1 e2 r0 r1 r2 r3 r4 r5
          obtain ⟨hro, d1, d3, hm, e0, e1, e2⟩ := HX.out _ k0
          obtain ⟨r0, r1, r2, r3, r4, r5⟩ := hro.cells
          dsimp only at r0 r1 r2 r3 r4 r5
          clear hro hm
          go_wp2_with fail
          refine (cX.out _ (HB0.out.trans (k0.mono HB0.out.size))).mono ?_
          rintro e w16 ⟨rfl, hb'⟩
          replace k0 := k0.trans (hb'.mono k0.size)
          clear hb'
          clear d1 d3 e0 e1 e2 r0 r1 r2 r3 r4 r5
          obtain ⟨hro, d1, d3, hm, e0, e1, e2⟩ := HX.out _ k0
          obtain ⟨r0, r1, r2, r3, r4, r5⟩ := hro.cells
          dsimp only at r0 r1 r2 r3 r4 r5
          clear hro hm
          have HK := Lib.hid k0
          have HSK2 := Lib.hid (HSK.out.trans (show _ = (s1, s2, s3) from by simp))
          clear k0 HSK d1 d3 e0 e1 e2 r0 r1 r2 r3 r4 r5
          go_wp2
          go_roundw
          case rel => exact ⟨1, by omega, by go_num, by rw [HSK2.out], by rw [HSK2.out], by rw [HSK2.out], HK.out⟩
          case measure => simp [intOf]
    · skip
      have HSK := Lib.hid (HS2.out.trans (HSD.out _ _ _))
      have hixk := fun W' => (hix W').2.1
      rw [show ((1 : Nat) : Int) = 1 from rfl]
      obtain ⟨⟨s1, s2, s3⟩, hs⟩ : ∃ s, S 1 = s := ⟨_, rfl⟩
      rw [hs] at HSK ⊢
      clear hs
      dsimp only at HSK ⊢
      have cX := Lib.hid fun W' hq => cA.out b hb W' hq
      have cY := Lib.hid fun W' hq => cA.out c hc W' hq
      have cZ := Lib.hid fun W' => cN.out b c hb hc W'
      obtain ⟨X, hX⟩ : ∃ X, ab b = X := ⟨_, rfl⟩
      obtain ⟨Y, hY⟩ : ∃ Y, ab c = Y := ⟨_, rfl⟩
      rw [hX] at cX HSK
      rw [hY] at cY HSK
      clear hX hY
      obtain ⟨hro, d1, d3, hm, e0, e1, e2⟩ := HX.out _ k0
      obtain ⟨r0, r1, r2, r3, r4, r5⟩ := hro.cells
      dsimp only at r0 r1 r2 r3 r4 r5
      clear hro hm
      cases X
      · cases Y
        · skip
          go_wp2_with fail
          refine (cX.out _ (HB0.out.trans (k0.mono HB0.out.size))).mono ?_
          rintro e w20 ⟨rfl, hb'⟩
          replace k0 := k0.trans (hb'.mono k0.size)
          clear hb'
          clear d1 d3 e0 e1 e2 r0 r1 r2 r3 r4 r5
          obtain ⟨hro, d1, d3, hm, e0, e1, e2⟩ := HX.out _ k0
          obtain ⟨r0, r1, r2, r3, r4, r5⟩ := hro.cells
          dsimp only at r0 r1 r2 r3 r4 r5
          clear hro hm
          go_wp2_with fail
          refine (cX.out _ (HB0.out.trans (k0.mono HB0.out.size))).mono ?_
          rintro e w21 ⟨rfl, hb'⟩
          replace k0 := k0.trans (hb'.mono k0.size)
          clear hb'
          clear d1 d3 e0 e1 e2 r0 r1 r2 r3 r4 r5
          obtain ⟨hro, d1, d3, hm, e0, e1, e2⟩ := HX.out _ k0
          obtain ⟨r0, r1, r2, r3, r4, r5⟩ := hro.cells
          dsimp only at r0 r1 r2 r3 r4 r5
          clear hro hm
          go_wp2_with fail
          refine (cY.out _ (HB0.out.trans (k0.mono HB0.out.size))).mono ?_
          rintro e w22 ⟨rfl, hb'⟩
          replace k0 := k0.trans (hb'.mono k0.size)
          clear hb'
          clear d1 d3 e0 e1 e2 r0 r1 r2 r3 r4 r5
          obtain ⟨hro, d1, d3, hm, e0, e1, e2⟩ := HX.out _ k0
          obtain ⟨r0, r1, r2, r3, r4, r5⟩ := hro.cells
          dsimp only at r0 r1 r2 r3 r4 r5
          clear hro hm
          have HK := Lib.hid k0
          have HSK2 := Lib.hid (HSK.out.trans (show _ = (s1, s2, s3) from by simp))
          clear k0 HSK d1 d3 e0 e1 e2 r0 r1 r2 r3 r4 r5
          go_wp2
          go_roundw
          case rel => exact ⟨2, by omega, by go_num, by rw [HSK2.out], by rw [HSK2.out], by rw [HSK2.out], HK.out⟩
          case measure => simp [intOf]
        · skip
          go_wp2_with fail
          refine (cX.out _ (HB0.out.trans (k0.mono HB0.out.size))).mono ?_
          rintro e w23 ⟨rfl, hb'⟩
          replace k0 := k0.trans (hb'.mono k0.size)
          clear hb'
          clear d1 d3 e0 e1 e2 r0 r1 r2 r3 r4 r5
          obtain ⟨hro, d1, d3, hm, e0, e1, e2⟩ := HX.out _ k0
          obtain ⟨r0, r1, r2, r3, r4, r5⟩ := hro.cells
          dsimp only at r0 r1 r2 r3 r4 r5
          clear hro hm
          go_wp2_with fail
          refine (cX.out _ (HB0.out.trans (k0.mono HB0.out.size))).mono ?_
          rintro e w24 ⟨rfl, hb'⟩
          replace k0 := k0.trans (hb'.mono k0.size)
          clear hb'
          clear d1 d3 e0 e1 e2 r0 r1 r2 r3 r4 r5
          obtain ⟨hro, d1, d3, hm, e0, e1, e2⟩ := HX.out _ k0
          obtain ⟨r0, r1, r2, r3, r4, r5⟩ := hro.cells
          dsimp only at r0 r1 r2 r3 r4 r5
          clear hro hm
          go_wp2_with fail
          refine (cY.out _ (HB0.out.trans (k0.mono HB0.out.size))).mono ?_
          rintro e w25 ⟨rfl, hb'⟩
          replace k0 := k0.trans (hb'.mono k0.size)
          clear hb'
          clear d1 d3 e0 e1 e2 r0 r1 r2 r3 r4 r5
          obtain ⟨hro, d1, d3, hm, e0, e1, e2⟩ := HX.out _ k0
          obtain ⟨r0, r1, r2, r3, r4, r5⟩ := hro.cells
          dsimp only at r0 r1 r2 r3 r4 r5
          clear hro hm
          go_wp2_with fail
          refine (cZ.out _).mono ?_
          rintro e w26 ⟨rfl, hb'⟩
          replace k0 := k0.trans (hb'.mono k0.size)
          clear hb'
          clear d1 d3 e0 e1 e2 r0 r1 r2 r3 r4 r5
          obtain ⟨hro, d1, d3, hm, e0, e1, e2⟩ := HX.out _ k0
          obtain ⟨r0, r1, r2, r3, r4, r5⟩ := hro.cells
          dsimp only at r0 r1 r2 r3 r4 r5
          clear hro hm
          have HK := Lib.hid k0
          have HSK2 := Lib.hid (HSK.out.trans (show _ = (s1, nm b c, s3) from by simp))
          clear k0 HSK d1 d3 e0 e1 e2 r0 r1 r2 r3 r4 r5
          go_wp2
          go_roundw
          case rel => exact ⟨2, by omega, by go_num, by rw [HSK2.out], by rw [HSK2.out], by rw [HSK2.out], HK.out⟩
          case measure => simp [intOf]
      · cases Y
        · skip
          go_wp2_with fail
          refine (cX.out _ (HB0.out.trans (k0.mono HB0.out.size))).mono ?_
          rintro e w27 ⟨rfl, hb'⟩
          replace k0 := k0.trans (hb'.mono k0.size)
          clear hb'
          clear d1 d3 e0 e1 e2 r0 r1 r2 r3 r4 r5
          obtain ⟨hro, d1, d3, hm, e0, e1, e2⟩ := HX.out _ k0
          obtain ⟨r0, r1, r2, r3, r4, r5⟩ := hro.cells
          dsimp only at r0 r1 r2 r3 r4 r5
          clear hro hm
          go_wp2_with fail
          refine (cY.out _ (HB0.out.trans (k0.mono HB0.out.size))).mono ?_
          rintro e w28 ⟨rfl, hb'⟩
          replace k0 := k0.trans (hb'.mono k0.size)
          clear hb'
          clear d1 d3 e0 e1 e2 r0 r1 r2 r3 r4 r5
          obtain ⟨hro, d1, d3, hm, e0, e1, e2⟩ := HX.out _ k0
          obtain ⟨r0, r1, r2, r3, r4, r5⟩ := hro.cells
          dsimp only at r0 r1 r2 r3 r4 r5
          clear hro hm
          go_wp2_with fail
          refine (cZ.out _).mono ?_
          rintro e w29 ⟨rfl, hb'⟩
          replace k0 := k0.trans (hb'.mono k0.size)
          clear hb'
          clear d1 d3 e0 e1 e2 r0 r1 r2 r3 r4 r5
          obtain ⟨hro, d1, d3, hm, e0, e1, e2⟩ := HX.out _ k0
          obtain ⟨r0, r1, r2, r3, r4, r5⟩ := hro.cells
          dsimp only at r0 r1 r2 r3 r4 r5
          clear hro hm
          have HK := Lib.hid k0
          have HSK2 := Lib.hid (HSK.out.trans (show _ = (nm b c, s2, true) from by simp))
          clear k0 HSK d1 d3 e0 e1 e2 r0 r1 r2 r3 r4 r5
          go_wp2
          go_roundw
          case rel => exact ⟨2, by omega, by go_num, by rw [HSK2.out], by rw [HSK2.out], by rw [HSK2.out], HK.out⟩
          case measure => simp [intOf]
        · skip
          go_wp2_with fail
          refine (cX.out _ (HB0.out.trans (k0.mono HB0.out.size))).mono ?_
          rintro e w30 ⟨rfl, hb'⟩
          replace k0 := k0.trans (hb'.mono k0.size)
          clear hb'
          clear d1 d3 e0 e1 e2 r0 r1 r2 r3 r4 r5
          obtain ⟨hro, d1, d3, hm, e0, e1, e2⟩ := HX.out _ k0
          obtain ⟨r0, r1, r2, r3, r4, r5⟩ := hro.cells
          dsimp only at r0 r1 r2 r3 r4 r5
          clear hro hm
          go_wp2_with fail
          refine (cY.out _ (HB0.out.trans (k0.mono HB0.out.size))).mono ?_
          rintro e w31 ⟨rfl, hb'⟩
          replace k0 := k0.trans (hb'.mono k0.size)
          clear hb'
          clear d1 d3 e0 e1 e2 r0 r1 r2 r3 r4 r5
          obtain ⟨hro, d1, d3, hm, e0, e1, e2⟩ := HX.out _ k0
          obtain ⟨r0, r1, r2, r3, r4, r5⟩ := hro.cells
          dsimp only at r0 r1 r2 r3 r4 r5
          clear hro hm
          go_wp2_with fail
          refine (cX.out _ (HB0.out.trans (k0.mono HB0.out.size))).mono ?_
          rintro e w32 ⟨rfl, hb'⟩
          replace k0 := k0.trans (hb'.mono k0.size)
          clear hb'
          clear d1 d3 e0 e1 e2 r0 r1 r2 r3 r4 r5
          obtain ⟨hro, d1, d3, hm, e0, e1, e2⟩ := HX.out _ k0
          obtain ⟨r0, r1, r2, r3, r4, r5⟩ := hro.cells
          dsimp only at r0 r1 r2 r3 r4 r5
          clear hro hm
          have HK := Lib.hid k0
          have HSK2 := Lib.hid (HSK.out.trans (show _ = (s1, s2, s3) from by simp))
          clear k0 HSK d1 d3 e0 e1 e2 r0 r1 r2 r3 r4 r5
          go_wp2
          go_roundw
          case rel => exact ⟨2, by omega, by go_num, by rw [HSK2.out], by rw [HSK2.out], by rw [HSK2.out], HK.out⟩
          case measure => simp [intOf]
    · skip
      have HSK := Lib.hid (HS3.out.trans (HSD.out _ _ _))
      have hixk := fun W' => (hix W').2.2
      rw [show ((2 : Nat) : Int) = 2 from rfl]
      obtain ⟨⟨s1, s2, s3⟩, hs⟩ : ∃ s, S 2 = s := ⟨_, rfl⟩
      rw [hs] at HSK ⊢
      clear hs
      dsimp only at HSK ⊢
      have cX := Lib.hid fun W' hq => cA.out c hc W' hq
      have cY := Lib.hid fun W' hq => cA.out a ha W' hq
      have cZ := Lib.hid fun W' => cN.out c a hc ha W'
      obtain ⟨X, hX⟩ : ∃ X, ab c = X := ⟨_, rfl⟩
      obtain ⟨Y, hY⟩ : ∃ Y, ab a = Y := ⟨_, rfl⟩
      rw [hX] at cX HSK
      rw [hY] at cY HSK
      clear hX hY
      obtain ⟨hro, d1, d3, hm, e0, e1, e2⟩ := HX.out _ k0
      obtain ⟨r0, r1, r2, r3, r4, r5⟩ := hro.cells
      dsimp only at r0 r1 r2 r3 r4 r5
      clear hro hm
      cases X
      · cases Y
        · skip
          go_wp2_with fail
          refine (cX.out _ (HB0.out.trans (k0.mono HB0.out.size))).mono ?_
          rintro e w36 ⟨rfl, hb'⟩
          replace k0 := k0.trans (hb'.mono k0.size)
          clear hb'
          clear d1 d3 e0 e1 e2 r0 r1 r2 r3 r4 r5
          obtain ⟨hro, d1, d3, hm, e0, e1, e2⟩ := HX.out _ k0
          obtain ⟨r0, r1, r2, r3, r4, r5⟩ := hro.cells
          dsimp only at r0 r1 r2 r3 r4 r5
          clear hro hm
          go_wp2_with fail
          refine (cX.out _ (HB0.out.trans (k0.mono HB0.out.size))).mono ?_
          rintro e w37 ⟨rfl, hb'⟩
          replace k0 := k0.trans (hb'.mono k0.size)
          clear hb'
          clear d1 d3 e0 e1 e2 r0 r1 r2 r3 r4 r5
          obtain ⟨hro, d1, d3, hm, e0, e1, e2⟩ := HX.out _ k0
          obtain ⟨r0, r1, r2, r3, r4, r5⟩ := hro.cells
          dsimp only at r0 r1 r2 r3 r4 r5
          clear hro hm
          go_wp2_with fail
          refine (cY.out _ (HB0.out.trans (k0.mono HB0.out.size))).mono ?_
          rintro e w38 ⟨rfl, hb'⟩
          replace k0 := k0.trans (hb'.mono k0.size)
          clear hb'
          clear d1 d3 e0 e1 e2 r0 r1 r2 r3 r4 r5
          obtain ⟨hro, d1, d3, hm, e0, e1, e2⟩ := HX.out _ k0
          obtain ⟨r0, r1, r2, r3, r4, r5⟩ := hro.cells
          dsimp only at r0 r1 r2 r3 r4 r5
          clear hro hm
          have HK := Lib.hid k0
          have HSK2 := Lib.hid (HSK.out.trans (show _ = (s1, s2, s3) from by simp))
          clear k0 HSK d1 d3 e0 e1 e2 r0 r1 r2 r3 r4 r5
          go_wp2
          go_roundw
          case rel => exact ⟨3, by omega, by go_num, by rw [HSK2.out], by rw [HSK2.out], by rw [HSK2.out], HK.out⟩
          case measure => simp [intOf]
        · skip
          go_wp2_with fail
          refine (cX.out _ (HB0.out.trans (k0.mono HB0.out.size))).mono ?_
          rintro e w39 ⟨rfl, hb'⟩
          replace k0 := k0.trans (hb'.mono k0.size)
          clear hb'
          clear d1 d3 e0 e1 e2 r0 r1 r2 r3 r4 r5
          obtain ⟨hro, d1, d3, hm, e0, e1, e2⟩ := HX.out _ k0
          obtain ⟨r0, r1, r2, r3, r4, r5⟩ := hro.cells
          dsimp only at r0 r1 r2 r3 r4 r5
          clear hro hm
          go_wp2_with fail
          refine (cX.out _ (HB0.out.trans (k0.mono HB0.out.size))).mono ?_
          rintro e w40 ⟨rfl, hb'⟩
          replace k0 := k0.trans (hb'.mono k0.size)
          clear hb'
          clear d1 d3 e0 e1 e2 r0 r1 r2 r3 r4 r5
          obtain ⟨hro, d1, d3, hm, e0, e1, e2⟩ := HX.out _ k0
          obtain ⟨r0, r1, r2, r3, r4, r5⟩ := hro.cells
          dsimp only at r0 r1 r2 r3 r4 r5
          clear hro hm
          go_wp2_with fail
          refine (cY.out _ (HB0.out.trans (k0.mono HB0.out.size))).mono ?_
          rintro e w41 ⟨rfl, hb'⟩
          replace k0 := k0.trans (hb'.mono k0.size)
          clear hb'
          clear d1 d3 e0 e1 e2 r0 r1 r2 r3 r4 r5
          obtain ⟨hro, d1, d3, hm, e0, e1, e2⟩ := HX.out _ k0
          obtain ⟨r0, r1, r2, r3, r4, r5⟩ := hro.cells
          dsimp only at r0 r1 r2 r3 r4 r5
          clear hro hm
          go_wp2_with fail
          refine (cZ.out _).mono ?_
          rintro e w42 ⟨rfl, hb'⟩
          replace k0 := k0.trans (hb'.mono k0.size)
          clear hb'
          clear d1 d3 e0 e1 e2 r0 r1 r2 r3 r4 r5
          obtain ⟨hro, d1, d3, hm, e0, e1, e2⟩ := HX.out _ k0
          obtain ⟨r0, r1, r2, r3, r4, r5⟩ := hro.cells
          dsimp only at r0 r1 r2 r3 r4 r5
          clear hro hm
          have HK := Lib.hid k0
          have HSK2 := Lib.hid (HSK.out.trans (show _ = (s1, nm c a, s3) from by simp))
          clear k0 HSK d1 d3 e0 e1 e2 r0 r1 r2 r3 r4 r5
          go_wp2
          go_roundw
          case rel => exact ⟨3, by omega, by go_num, by rw [HSK2.out], by rw [HSK2.out], by rw [HSK2.out], HK.out⟩
          case measure => simp [intOf]
      · cases Y
        · skip
          go_wp2_with fail
          refine (cX.out _ (HB0.out.trans (k0.mono HB0.out.size))).mono ?_
          rintro e w43 ⟨rfl, hb'⟩
          replace k0 := k0.trans (hb'.mono k0.size)
          clear hb'
          clear d1 d3 e0 e1 e2 r0 r1 r2 r3 r4 r5
          obtain ⟨hro, d1, d3, hm, e0, e1, e2⟩ := HX.out _ k0
          obtain ⟨r0, r1, r2, r3, r4, r5⟩ := hro.cells
          dsimp only at r0 r1 r2 r3 r4 r5
          clear hro hm
          go_wp2_with fail
          refine (cY.out _ (HB0.out.trans (k0.mono HB0.out.size))).mono ?_
          rintro e w44 ⟨rfl, hb'⟩
          replace k0 := k0.trans (hb'.mono k0.size)
          clear hb'
          clear d1 d3 e0 e1 e2 r0 r1 r2 r3 r4 r5
          obtain ⟨hro, d1, d3, hm, e0, e1, e2⟩ := HX.out _ k0
          obtain ⟨r0, r1, r2, r3, r4, r5⟩ := hro.cells
          dsimp only at r0 r1 r2 r3 r4 r5
          clear hro hm
          go_wp2_with fail
          refine (cZ.out _).mono ?_
          rintro e w45 ⟨rfl, hb'⟩
          replace k0 := k0.trans (hb'.mono k0.size)
          clear hb'
          clear d1 d3 e0 e1 e2 r0 r1 r2 r3 r4 r5
          obtain ⟨hro, d1, d3, hm, e0, e1, e2⟩ := HX.out _ k0
          obtain ⟨r0, r1, r2, r3, r4, r5⟩ := hro.cells
          dsimp only at r0 r1 r2 r3 r4 r5
          clear hro hm
          have HK := Lib.hid k0
          have HSK2 := Lib.hid (HSK.out.trans (show _ = (nm c a, s2, true) from by simp))
          clear k0 HSK d1 d3 e0 e1 e2 r0 r1 r2 r3 r4 r5
          go_wp2
          go_roundw
          case rel => exact ⟨3, by omega, by go_num, by rw [HSK2.out], by rw [HSK2.out], by rw [HSK2.out], HK.out⟩
          case measure => simp [intOf]
        · skip
          go_wp2_with fail
          refine (cX.out _ (HB0.out.trans (k0.mono HB0.out.size))).mono ?_
          rintro e w46 ⟨rfl, hb'⟩
          replace k0 := k0.trans (hb'.mono k0.size)
          clear hb'
          clear d1 d3 e0 e1 e2 r0 r1 r2 r3 r4 r5
          obtain ⟨hro, d1, d3, hm, e0, e1, e2⟩ := HX.out _ k0
          obtain ⟨r0, r1, r2, r3, r4, r5⟩ := hro.cells
          dsimp only at r0 r1 r2 r3 r4 r5
          clear hro hm
          go_wp2_with fail
          refine (cY.out _ (HB0.out.trans (k0.mono HB0.out.size))).mono ?_
          rintro e w47 ⟨rfl, hb'⟩
          replace k0 := k0.trans (hb'.mono k0.size)
          clear hb'
          clear d1 d3 e0 e1 e2 r0 r1 r2 r3 r4 r5
          obtain ⟨hro, d1, d3, hm, e0, e1, e2⟩ := HX.out _ k0
          obtain ⟨r0, r1, r2, r3, r4, r5⟩ := hro.cells
          dsimp only at r0 r1 r2 r3 r4 r5
          clear hro hm
          go_wp2_with fail
          refine (cX.out _ (HB0.out.trans (k0.mono HB0.out.size))).mono ?_
          rintro e w48 ⟨rfl, hb'⟩
          replace k0 := k0.trans (hb'.mono k0.size)
          clear hb'
          clear d1 d3 e0 e1 e2 r0 r1 r2 r3 r4 r5
          obtain ⟨hro, d1, d3, hm, e0, e1, e2⟩ := HX.out _ k0
          obtain ⟨r0, r1, r2, r3, r4, r5⟩ := hro.cells
          dsimp only at r0 r1 r2 r3 r4 r5
          clear hro hm
          have HK := Lib.hid k0
          have HSK2 := Lib.hid (HSK.out.trans (show _ = (s1, s2, s3) from by simp))
          clear k0 HSK d1 d3 e0 e1 e2 r0 r1 r2 r3 r4 r5
          go_wp2
          go_roundw
          case rel => exact ⟨3, by omega, by go_num, by rw [HSK2.out], by rw [HSK2.out], by rw [HSK2.out], HK.out⟩
          case measure => simp [intOf]
    · skip
      rw [show ((3 : Nat) : Int) = 3 from rfl]
      obtain ⟨hro, d1, d3, hm, e0, e1, e2⟩ := HX.out _ k0
      clear hro d1 e0 e1 e2
      obtain ⟨⟨s1, s2, s3⟩, hs⟩ : ∃ s, S 3 = s := ⟨_, rfl⟩
      have hL := HNL.out
      have hS3 : s1 ≤ 12290 ∧ s2 ≤ 12290 := by
        have e := HS3.out
        rw [HSD.out, HS2.out, HSD.out, HS1.out, HSD.out, HS0.out, hs] at e
        have n1 := hL a b ha hb
        have n2 := hL b c hb hc
        have n3 := hL c a hc ha
        have key : ∀ (s : Nat × Nat × Bool) (x y : Nat), s.1 ≤ 12290 ∧ s.2.1 ≤ 12290 → nm x y ≤ 12290 → (if (ab x && !ab y) = true then (nm x y, s.2.1, true) else if (!ab x && ab y) = true then (s.1, nm x y, s.2.2) else s).1 ≤ 12290 ∧ (if (ab x && !ab y) = true then (nm x y, s.2.1, true) else if (!ab x && ab y) = true then (s.1, nm x y, s.2.2) else s).2.1 ≤ 12290 := by
          intro s x y hs hn
          split
          · exact ⟨hn, hs.2⟩
          · split
            · exact ⟨hs.1, hn⟩
            · exact hs
        have := key _ c a (key _ b c (key (0, 0, false) a b ⟨Nat.zero_le _, Nat.zero_le _⟩ n1) n2) n3
        rw [← e] at this
        exact this
      rw [hs] at HTR ⊢
      dsimp only at HTR ⊢
      clear hs hL
      obtain ⟨q1, q2⟩ := hS3
      have HK := Lib.hid (grown_below (row := some B) (HB0.out.trans (k0.mono HB0.out.size)))
      clear k0
      cases s3
      · have HR := Lib.hid (show res = [] by rw [← HTR.out]; rfl)
        have HM := Lib.hid hm
        clear hm d3
        go_wp2
        go_end0
        exact ⟨rfl, by rw [HR.out]; exact HM.out.mono (by omega), HK.out⟩
      · have HR := Lib.hid (show res = [(s1, s2)] by rw [← HTR.out]; rfl)
        have hwf1 : (Lit.int .i64 (s1 : Int)).wf = true := by simp [Lit.wf, IntKind.min, IntKind.max, IntKind.bits, IntKind.signed]; omega
        go_wp2_with (refine MapV.store hm rfl _ _ _ rfl hu89 hu3 rfl (s1 : Int) (.int .i64 (s2 : Int)) rfl rfl hwf1 (M := N + 1) (.inr (by omega)) (by omega) ?_; clear hm d3; intro w9 hm9 hg9)
        go_end0
        exact ⟨rfl, by rw [HR.out]; exact hm9, HK.out.andThen hg9 (fun j hj => .inr hj)⟩
end Go.Proofs
/- successors. -/
set_option linter.unusedVariables false
set_option linter.unusedSimpArgs false
namespace Go.Proofs
open Go.RowKit Go.Proofs.Mp

theorem addM_append (f : Int → Option Value) : ∀ l m, addM f (l ++ m) = addM (addM f l) m
  | [], m => rfl
  | p :: l, m => addM_append _ l m
theorem low_num {ab : Nat → Bool} {W i : Nat} (hW : 2 ≤ W) : triS (ab i) (ab (i + 1)) (ab (i + W + 1)) (numE W i (i + 1)) (numE W (i + 1) (i + W + 1)) (numE W (i + W + 1) i) = lowS ab W i := by
  have e1 : numE W i (i + 1) = 3 * i := by unfold numE; rw [if_pos (by omega)]; omega
  have e2 : numE W (i + 1) (i + W + 1) = 3 * (i + 1) + 1 := by unfold numE; rw [if_neg (by omega), if_pos (by omega)]; omega
  have e3 : numE W (i + W + 1) i = 3 * i + 2 := by unfold numE; rw [if_neg (by omega), if_neg (by omega)]; omega
  rw [e1, e2, e3]
  rfl
theorem upp_num {ab : Nat → Bool} {W i : Nat} (hW : 2 ≤ W) : triS (ab i) (ab (i + W + 1)) (ab (i + W)) (numE W i (i + W + 1)) (numE W (i + W + 1) (i + W)) (numE W (i + W) i) = uppS ab W i := by
  have e1 : numE W i (i + W + 1) = 3 * i + 2 := by unfold numE; rw [if_neg (by omega), if_neg (by omega)]; omega
  have e2 : numE W (i + W + 1) (i + W) = 3 * (i + W) := by unfold numE; rw [if_pos (by omega)]; omega
  have e3 : numE W (i + W) i = 3 * i + 1 := by unfold numE; rw [if_neg (by omega), if_pos (by omega)]; omega
  rw [e1, e2, e3]
  rfl
/-- the map of the successors, without the keys that are struck -/
def mapV (S : List (Nat × Nat)) (D : Nat → Bool) : Int → Option Value := fun x => if 0 ≤ x then (mpx S D x.toNat).map fun k => Value.int .i64 (k : Int) else none
theorem addM_miss {f : Int → Option Value} {x : Int} : ∀ {l : List (Nat × Nat)}, (∀ p ∈ l, (p.1 : Int) ≠ x) → addM f l x = f x
  | [], _ => rfl
  | p :: l, h => by
    unfold addM
    rw [addM_miss fun q hq => h q (List.mem_cons_of_mem _ hq)]
    exact setV_ne (fun e => h p List.mem_cons_self e.symm)
theorem addM_map {S : List (Nat × Nat)} (hS : Inj S) (x : Int) : addM (fun _ => none) S x = mapV S (fun _ => false) x := by
  have hf := hS.f
  have key : ∀ (S : List (Nat × Nat)) (f : Int → Option Value), (S.map Prod.fst).Nodup → ∀ x : Int, addM f S x = match (if 0 ≤ x then nx S x.toNat else none) with | some k => some (Value.int .i64 (k : Int)) | none => f x := by
    intro S
    induction S with
    | nil => intro f _ x; simp [addM, nx]
    | cons p S ih =>
      intro f hn x
      rw [List.map_cons, List.nodup_cons] at hn
      unfold addM
      by_cases hp : (p.1 : Int) = x
      · rw [addM_miss fun q hq e => hn.1 (by rw [show p.1 = q.1 by omega]; exact List.mem_map.2 ⟨q, hq, rfl⟩)]
        rw [← hp, setV_same, if_pos (by omega)]
        simp [nx]
      · rw [ih _ hn.2 x, setV_ne (fun e => hp e.symm)]
        by_cases h0 : 0 ≤ x
        · rw [if_pos h0, if_pos h0]
          have : (p.1 == x.toNat) = false := by rw [beq_eq_false_iff_ne]; omega
          simp [nx, this]
        · rw [if_neg h0, if_neg h0]
  rw [key S _ hf x]
  unfold mapV mpx
  by_cases h0 : 0 ≤ x
  · rw [if_pos h0, if_pos h0]
    cases nx S x.toNat <;> simp
  · rw [if_neg h0, if_neg h0]
theorem rowS_len (ab : Nat → Bool) (W r : Nat) : ∀ c, (rowS ab W r c).length ≤ 2 * c
  | 0 => Nat.le_refl _
  | c + 1 => by
    have h1 := rowS_len ab W r c
    have h2 : (lowS ab W (r * W + c)).length ≤ 1 := triS_len _ _ _ _ _ _
    have h3 : (uppS ab W (r * W + c)).length ≤ 1 := triS_len _ _ _ _ _ _
    unfold rowS
    rw [List.length_append, List.length_append]
    omega
theorem stepsTo_len (ab : Nat → Bool) (W : Nat) : ∀ r, (stepsTo ab W r).length ≤ 2 * (W - 1) * r
  | 0 => Nat.le_refl _
  | r + 1 => by
    have h1 := stepsTo_len ab W r
    have h2 := rowS_len ab W r (W - 1)
    unfold stepsTo
    rw [List.length_append, Nat.mul_succ]
    omega

/-- the call has returned a map of its own that holds f -/
def RetM (w : World) (f : Int → Option Value) (e : Ending) (w' : World) : Prop := ∃ B N, e = .returned (.map (some B)) ∧ MapV Try.prog 3 w' B N f ∧ N ≤ 10000 ∧ w.heap.size ≤ B ∧ Below w.heap.size w w'
/-- what stays while the map in block B grows -/
structure Suc (t : Ht) (level : Int) (w W : World) (B : Nat) : Prop where
  ro : RowH W w.heap.size t
  lv : W.cell? ⟨w.heap.size + 1, 0, none⟩ = some (.int .i64 level)
  ab : W.cell? ⟨w.heap.size + 4, 0, none⟩ = some (.func (.func 77) #[] #[.pointer (some ⟨w.heap.size, 0, none⟩), .pointer (some ⟨w.heap.size + 1, 0, none⟩)])
  nv : W.cell? ⟨w.heap.size + 3, 0, none⟩ = some (.map (some B))
  hB : B = w.heap.size + 2
  sz : w.heap.size + 5 ≤ W.heap.size
  bw : Below w.heap.size w W
theorem Suc.grown {t : Ht} {level : Int} {w W W' : World} {B : Nat} (h : Suc t level w W B) (hg : W.grownBy W' (some B)) : Suc t level w W' B := by
  have hB := h.hB
  have hs := h.sz
  have hbl : ∀ i, i < w.heap.size + 5 → i ≠ B → W'.heap[i]? = W.heap[i]? := fun i hi hne => hg.block i (by omega) (by simpa using hne)
  have hc : ∀ i, i < w.heap.size + 5 → i ≠ B → W'.cell? ⟨i, 0, none⟩ = W.cell? ⟨i, 0, none⟩ := fun i hi hne => by unfold World.cell?; rw [hbl i hi hne]
  exact ⟨(hbl _ (by omega) (by omega)).trans h.ro, (hc _ (by omega) (by omega)).trans h.lv, (hc _ (by omega) (by omega)).trans h.ab, (hc _ (by omega) (by omega)).trans h.nv, hB, Nat.le_trans hs hg.size, h.bw.grown hg h.bw.size (fun j hj => by injection hj with hj; omega)⟩

theorem Suc.start (t : Ht) (level : Int) (w : World) : Suc t level w (((((w.alloc (.cells (celH t) 26)).alloc (.cells #[.int .i64 level] 3)).alloc (.map #[] 0)).alloc (.cells #[.map (some (w.heap.size + 2))] 89)).alloc (.cells #[.func (.func 77) #[] #[.pointer (some ⟨w.heap.size, 0, none⟩), .pointer (some ⟨w.heap.size + 1, 0, none⟩)]] 98)) (w.heap.size + 2) ∧ MapV Try.prog 3 (((((w.alloc (.cells (celH t) 26)).alloc (.cells #[.int .i64 level] 3)).alloc (.map #[] 0)).alloc (.cells #[.map (some (w.heap.size + 2))] 89)).alloc (.cells #[.func (.func 77) #[] #[.pointer (some ⟨w.heap.size, 0, none⟩), .pointer (some ⟨w.heap.size + 1, 0, none⟩)]] 98)) (w.heap.size + 2) 0 (fun _ => none) := by
  have s1 : (w.alloc (.cells (celH t) 26)).heap.size = w.heap.size + 1 := by simp
  have s2 : ((w.alloc (.cells (celH t) 26)).alloc (.cells #[.int .i64 level] 3)).heap.size = w.heap.size + 2 := by simp
  have s3 : (((w.alloc (.cells (celH t) 26)).alloc (.cells #[.int .i64 level] 3)).alloc (.map #[] 0)).heap.size = w.heap.size + 3 := by simp
  have s4 : ((((w.alloc (.cells (celH t) 26)).alloc (.cells #[.int .i64 level] 3)).alloc (.map #[] 0)).alloc (.cells #[.map (some (w.heap.size + 2))] 89)).heap.size = w.heap.size + 4 := by simp
  have b12 : Below (w.alloc (.cells (celH t) 26)).heap.size (w.alloc (.cells (celH t) 26)) ((w.alloc (.cells (celH t) 26)).alloc (.cells #[.int .i64 level] 3)) := bw1 _ _
  have b23 : Below ((w.alloc (.cells (celH t) 26)).alloc (.cells #[.int .i64 level] 3)).heap.size ((w.alloc (.cells (celH t) 26)).alloc (.cells #[.int .i64 level] 3)) (((w.alloc (.cells (celH t) 26)).alloc (.cells #[.int .i64 level] 3)).alloc (.map #[] 0)) := bw1 _ _
  have b34 : Below (((w.alloc (.cells (celH t) 26)).alloc (.cells #[.int .i64 level] 3)).alloc (.map #[] 0)).heap.size (((w.alloc (.cells (celH t) 26)).alloc (.cells #[.int .i64 level] 3)).alloc (.map #[] 0)) ((((w.alloc (.cells (celH t) 26)).alloc (.cells #[.int .i64 level] 3)).alloc (.map #[] 0)).alloc (.cells #[.map (some (w.heap.size + 2))] 89)) := bw1 _ _
  have b45 : Below ((((w.alloc (.cells (celH t) 26)).alloc (.cells #[.int .i64 level] 3)).alloc (.map #[] 0)).alloc (.cells #[.map (some (w.heap.size + 2))] 89)).heap.size ((((w.alloc (.cells (celH t) 26)).alloc (.cells #[.int .i64 level] 3)).alloc (.map #[] 0)).alloc (.cells #[.map (some (w.heap.size + 2))] 89)) (((((w.alloc (.cells (celH t) 26)).alloc (.cells #[.int .i64 level] 3)).alloc (.map #[] 0)).alloc (.cells #[.map (some (w.heap.size + 2))] 89)).alloc (.cells #[.func (.func 77) #[] #[.pointer (some ⟨w.heap.size, 0, none⟩), .pointer (some ⟨w.heap.size + 1, 0, none⟩)]] 98)) := bw1 _ _
  have b35 := b34.trans (b45.mono b34.size)
  have b25 := b23.trans (b35.mono b23.size)
  have b15 := b12.trans (b25.mono b12.size)
  have hm : MapV Try.prog 3 (((w.alloc (.cells (celH t) 26)).alloc (.cells #[.int .i64 level] 3)).alloc (.map #[] 0)) ((w.alloc (.cells (celH t) 26)).alloc (.cells #[.int .i64 level] 3)).heap.size 0 (fun _ => none) := MapV.made _
  rw [s2] at hm
  have h2 := heap_alloc_new (w.alloc (.cells (celH t) 26)) (.cells #[.int .i64 level] 3)
  have h4 := heap_alloc_new (((w.alloc (.cells (celH t) 26)).alloc (.cells #[.int .i64 level] 3)).alloc (.map #[] 0)) (.cells #[.map (some (w.heap.size + 2))] 89)
  have h5 := heap_alloc_new ((((w.alloc (.cells (celH t) 26)).alloc (.cells #[.int .i64 level] 3)).alloc (.map #[] 0)).alloc (.cells #[.map (some (w.heap.size + 2))] 89)) (.cells #[.func (.func 77) #[] #[.pointer (some ⟨w.heap.size, 0, none⟩), .pointer (some ⟨w.heap.size + 1, 0, none⟩)]] 98)
  rw [s1] at h2
  rw [s3] at h4
  rw [s4] at h5
  refine ⟨⟨(RowH.new w t).below b15, ?_, ?_, ?_, rfl, by simp, (bw1 w _).trans (b15.mono (bw1 w _).size)⟩, hm.below b35⟩
  · exact (b25.cell (p := ⟨w.heap.size + 1, 0, none⟩) (by rw [s2]; show w.heap.size + 1 < w.heap.size + 2; omega)).trans (by rw [cell_of_row _ _ _ _ _ _ h2]; rfl)
  · rw [cell_of_row _ _ _ _ _ _ h5]; rfl
  · exact (b45.cell (p := ⟨w.heap.size + 3, 0, none⟩) (by rw [s4]; show w.heap.size + 3 < w.heap.size + 4; omega)).trans (by rw [cell_of_row _ _ _ _ _ _ h4]; rfl)
theorem cell_in {W H r c : Nat} (hr : r + 1 < H) (hc : c + 1 < W) : r * W + c + W + 1 < W * H := by
  have h1 : (r + 2) * W ≤ H * W := Nat.mul_le_mul_right W (by omega)
  rw [Nat.add_mul, Nat.mul_comm H W] at h1
  omega

set_option maxRecDepth 100000 in
set_option maxHeartbeats 8000000 in
theorem con_successors (t : Ht) (W H : Nat) (level : Int) (w : World) (g : Grd t W H) (hR : RdI w t.a t.v) :
    Calls Try.prog 69 #[aggH t, .int .i64 level] w (RetM w (addM (fun _ => none) (stepsL (abv t level) W H))) := by
  have hmf : ∀ (fn : Fn) (first cap : Array Value) (w : World), (Instr.makeFunc fn first cap).run Try.prog w = .ok (.func fn first cap) w := fun _ _ _ _ => rfl
  have hmm := @run_makeMap Try.prog
  obtain ⟨a1, a2, a3, a4, a5, a6, a7, a8, a9, a10, a11⟩ := g.all
  have hwt := g.w
  have hht := g.h
  obtain ⟨hsu, hmu⟩ := Suc.start t level w
  have HE := Lib.hid (show stepsL (abv t level) W H = stepsTo (abv t level) W (H - 1) from rfl)
  have HT0 := Lib.hid (show addM (fun _ => none) (stepsTo (abv t level) W 0) = fun _ => none from rfl)
  have HTS := Lib.hid (show ∀ r, addM (fun _ => none) (stepsTo (abv t level) W (r + 1)) = addM (fun _ => none) (stepsTo (abv t level) W r ++ rowS (abv t level) W r (W - 1)) from fun _ => rfl)
  have HR0 := Lib.hid (show ∀ r, addM (fun _ => none) (stepsTo (abv t level) W r ++ rowS (abv t level) W r 0) = addM (fun _ => none) (stepsTo (abv t level) W r) from fun r => by rw [show rowS (abv t level) W r 0 = [] from rfl, List.append_nil])
  have HRS := Lib.hid (show ∀ r c, addM (fun _ => none) (stepsTo (abv t level) W r ++ rowS (abv t level) W r (c + 1)) = addM (addM (addM (fun _ => none) (stepsTo (abv t level) W r ++ rowS (abv t level) W r c)) (lowS (abv t level) W (r * W + c))) (uppS (abv t level) W (r * W + c)) from fun r c => by
    rw [show rowS (abv t level) W r (c + 1) = rowS (abv t level) W r c ++ lowS (abv t level) W (r * W + c) ++ uppS (abv t level) W (r * W + c) from rfl, ← List.append_assoc, ← List.append_assoc, addM_append, addM_append])
  have cLo := Lib.hid fun (r c N : Nat) (f : Int → Option Value) (hr : r + 1 < H) (hc : c + 1 < W) (W' : World) (hs : Suc t level w W' (w.heap.size + 2)) (hm : MapV Try.prog 3 W' (w.heap.size + 2) N f) (hN : N ≤ 100000) => (by
    have hcell := cell_in (r := r) (c := c) hr hc
    have hsz := hs.sz
    have := con_add t W level (r * W + c) (r * W + c + 1) (r * W + c + W + 1) w.heap.size (w.heap.size + 1) (w.heap.size + 4) (w.heap.size + 3) (w.heap.size + 2) N f W' hwt a2 (by omega) (by omega) (by omega) (by omega) hs.ro hs.lv (by omega) hs.ab (by omega) hs.nv (by omega) hm hN (hR.below hs.bw)
    rw [low_num a1] at this
    exact this : Calls Try.prog 78 #[.agg #[.int .i64 ((r * W + c : Nat) : Int), .int .i64 ((r * W + c + 1 : Nat) : Int), .int .i64 ((r * W + c + W + 1 : Nat) : Int)], .pointer (some ⟨w.heap.size + 4, 0, none⟩), .pointer (some ⟨w.heap.size, 0, none⟩), .pointer (some ⟨w.heap.size + 3, 0, none⟩)] W'
      (fun e w' => e = .returned (.tuple #[]) ∧ MapV Try.prog 3 w' (w.heap.size + 2) (N + 1) (addM f (lowS (abv t level) W (r * W + c))) ∧ W'.grownBy w' (some (w.heap.size + 2))))
  have cUp := Lib.hid fun (r c N : Nat) (f : Int → Option Value) (hr : r + 1 < H) (hc : c + 1 < W) (W' : World) (hs : Suc t level w W' (w.heap.size + 2)) (hm : MapV Try.prog 3 W' (w.heap.size + 2) N f) (hN : N ≤ 100000) => (by
    have hcell := cell_in (r := r) (c := c) hr hc
    have hsz := hs.sz
    have := con_add t W level (r * W + c) (r * W + c + W + 1) (r * W + c + W) w.heap.size (w.heap.size + 1) (w.heap.size + 4) (w.heap.size + 3) (w.heap.size + 2) N f W' hwt a2 (by omega) (by omega) (by omega) (by omega) hs.ro hs.lv (by omega) hs.ab (by omega) hs.nv (by omega) hm hN (hR.below hs.bw)
    rw [upp_num a1] at this
    exact this : Calls Try.prog 78 #[.agg #[.int .i64 ((r * W + c : Nat) : Int), .int .i64 ((r * W + c + W + 1 : Nat) : Int), .int .i64 ((r * W + c + W : Nat) : Int)], .pointer (some ⟨w.heap.size + 4, 0, none⟩), .pointer (some ⟨w.heap.size, 0, none⟩), .pointer (some ⟨w.heap.size + 3, 0, none⟩)] W'
      (fun e w' => e = .returned (.tuple #[]) ∧ MapV Try.prog 3 w' (w.heap.size + 2) (N + 1) (addM f (uppS (abv t level) W (r * W + c))) ∧ W'.grownBy w' (some (w.heap.size + 2))))
  have HB0 := Lib.hid hsu
  have HM0 := Lib.hid hmu
  clear hsu hmu hR a9 a10 a11
  generalize stepsL (abv t level) W H = SL at *
  generalize stepsTo (abv t level) W = T at *
  generalize rowS (abv t level) W = Ro at *
  generalize lowS (abv t level) W = Lo at *
  generalize uppS (abv t level) W = Up at *
  have HRow := Lib.hid fun (W' : World) (hs : Suc t level w W' (w.heap.size + 2)) => hs.ro
  have HNv := Lib.hid fun (W' : World) (hs : Suc t level w W' (w.heap.size + 2)) => hs.nv
  have HG := Lib.hid fun (W' W'' : World) (hs : Suc t level w W' (w.heap.size + 2)) (hg : W'.grownBy W'' (some (w.heap.size + 2))) => hs.grown hg
  have HBW := Lib.hid fun (W' : World) (hs : Suc t level w W' (w.heap.size + 2)) => hs.bw
  generalize hSu : Suc t level w = Su at *
  have HSu := Lib.hid hSu
  clear hSu g a5
  obtain ⟨x, y, tw, th, st, A, cc, v⟩ := t
  unfold aggH celH at *
  dsimp only at *
  subst hwt hht
  have hWi : (W : Int) ≤ 64 := by omega
  have hHi : (H : Int) ≤ 64 := by omega
  have hW2 : (2 : Int) ≤ (W : Int) := by omega
  have hH2 : (2 : Int) ≤ (H : Int) := by omega
  have k0 := HB0.out
  obtain ⟨r0, r1, r2, r3, r4, r5⟩ := (HRow.out _ k0).cells
  dsimp only at r0 r1 r2 r3 r4 r5
  go_enter Try.func69, Try.ntmps69
  go_upto_block 0 with fail
  generalize hz : (World.alloc _ _) = w0
  have k0 : Su w0 (w.heap.size + 2) := by rw [← hz]; exact HB0.out
  have m0 : MapV Try.prog 3 w0 (w.heap.size + 2) 0 (fun _ => none) := by rw [← hz]; exact HM0.out
  clear hz HB0 HM0 r0 r1 r2 r3 r4 r5
  go_wp2_with fail
  go_loopw [17] (fun i wr => ∃ r N : Nat, r ≤ H - 1 ∧ i = .int .i64 r ∧ Su wr (w.heap.size + 2) ∧ MapV Try.prog 3 wr (w.heap.size + 2) N (addM (fun _ => none) (T r)) ∧ N ≤ 128 * r) (fun i _ => (H - 1) - (intOf i).toNat)
  case atStart => exact ⟨0, 0, by omega, rfl, k0, by rw [HT0.out]; exact m0, by omega⟩
  case round =>
    clear k0 m0
    obtain ⟨r, N, hr, rfl, ks, km, hN⟩ := hrel
    obtain ⟨r0, r1, r2, r3, r4, r5⟩ := (HRow.out _ ks).cells
    dsimp only at r0 r1 r2 r3 r4 r5
    have nv := HNv.out _ ks
    by_cases hlt : r < H - 1
    rotate_left
    · obtain rfl : r = H - 1 := by omega
      have hge : ¬ (((H - 1 : Nat) : Int) < (H : Int) - 1) := by omega
      have HM := Lib.hid (show MapV Try.prog 3 wr (w.heap.size + 2) N (addM (fun _ => none) SL) by rw [HE.out]; exact km)
      have HK := Lib.hid (HBW.out _ ks)
      clear ks km hr
      go_wp2
      go_ret
      exact ⟨_, N, rfl, HM.out, by omega, by omega, HK.out⟩
    · have hri : (r : Int) < (H : Int) - 1 := by omega
      have hr0 : (0 : Int) ≤ (r : Int) := by omega
      have hrH : r + 1 < H := by omega
      have hmul : 0 ≤ (r : Int) * (W : Int) ∧ (r : Int) * (W : Int) ≤ 4096 := by
        have e1 : (0 : Int) * 0 ≤ (r : Int) * (W : Int) := Int.mul_le_mul (by omega) (by omega) (by omega) (by omega)
        have e2 : (r : Int) * (W : Int) ≤ 64 * 64 := Int.mul_le_mul (by omega) (by omega) (by omega) (by omega)
        omega
      obtain ⟨hm1, hm2⟩ := hmul
      have HCM := Lib.hid (Int.natCast_mul r W)
      go_wp2_with fail
      go_loopw [23] (fun j wx => ∃ c N' : Nat, c ≤ W - 1 ∧ j = .int .i64 c ∧ Su wx (w.heap.size + 2) ∧ MapV Try.prog 3 wx (w.heap.size + 2) N' (addM (fun _ => none) (T r ++ Ro r c)) ∧ N' ≤ 128 * r + 2 * c) (fun j _ => (W - 1) - (intOf j).toNat)
      case atStart => exact ⟨0, N, by omega, rfl, ks, by rw [HR0.out]; exact km, by omega⟩
      case round =>
        clear ks km r0 r1 r2 r3 r4 r5 nv hN
        obtain ⟨c, N', hc, rfl, ks, km, hN⟩ := hrel
        obtain ⟨r0, r1, r2, r3, r4, r5⟩ := (HRow.out _ ks).cells
        dsimp only at r0 r1 r2 r3 r4 r5
        by_cases hlc : c < W - 1
        rotate_left
        · obtain rfl : c = W - 1 := by omega
          have hge : ¬ (((W - 1 : Nat) : Int) < (W : Int) - 1) := by omega
          have HM := Lib.hid (show MapV Try.prog 3 wr (w.heap.size + 2) N' (addM (fun _ => none) (T (r + 1))) by rw [HTS.out]; exact km)
          have HK := Lib.hid ks
          clear ks km
          go_wp2
          go_roundw
          case rel => exact ⟨r + 1, N', by omega, by go_num, HK.out, HM.out, by omega⟩
          case measure => simp [intOf]; omega
        · have hci : (c : Int) < (W : Int) - 1 := by omega
          have hc0 : (0 : Int) ≤ (c : Int) := by omega
          have hcW : c + 1 < W := by omega
          have c1 := Lib.hid (cLo.out r c N' _ hrH hcW _ ks km (by omega))
          have c2 := Lib.hid fun (W' : World) (f : Int → Option Value) hs hm => cUp.out r c (N' + 1) f hrH hcW W' hs hm (by omega)
          rw [show (((r * W + c + W + 1 : Nat)) : Int) = (r : Int) * (W : Int) + (c : Int) + (W : Int) + 1 by rw [← HCM.out]; omega, show (((r * W + c + 1 : Nat)) : Int) = (r : Int) * (W : Int) + (c : Int) + 1 by rw [← HCM.out]; omega, show (((r * W + c : Nat)) : Int) = (r : Int) * (W : Int) + (c : Int) by rw [← HCM.out]; omega] at c1
          have c2' := Lib.hid fun (W' : World) (f : Int → Option Value) hs hm => (by
            have := c2.out W' f hs hm
            rw [show (((r * W + c + W + 1 : Nat)) : Int) = (r : Int) * (W : Int) + (c : Int) + (W : Int) + 1 by rw [← HCM.out]; omega, show (((r * W + c + W : Nat)) : Int) = (r : Int) * (W : Int) + (c : Int) + (W : Int) by rw [← HCM.out]; omega, show (((r * W + c : Nat)) : Int) = (r : Int) * (W : Int) + (c : Int) by rw [← HCM.out]; omega] at this
            exact this : Calls Try.prog 78 #[.agg #[.int .i64 ((r : Int) * (W : Int) + (c : Int)), .int .i64 ((r : Int) * (W : Int) + (c : Int) + (W : Int) + 1), .int .i64 ((r : Int) * (W : Int) + (c : Int) + (W : Int))], .pointer (some ⟨w.heap.size + 4, 0, none⟩), .pointer (some ⟨w.heap.size, 0, none⟩), .pointer (some ⟨w.heap.size + 3, 0, none⟩)] W'
              (fun e w' => e = .returned (.tuple #[]) ∧ MapV Try.prog 3 w' (w.heap.size + 2) (N' + 1 + 1) (addM f (Up (r * W + c))) ∧ W'.grownBy w' (some (w.heap.size + 2))))
          have HRC := Lib.hid (HRS.out r c)
          clear c2
          go_wp2_with fail
          refine c1.out.mono ?_
          rintro e w5 ⟨rfl, km5, hg5⟩
          have ks5 := HG.out _ _ ks hg5
          clear ks km hg5 c1 r0 r1 r2 r3 r4 r5
          obtain ⟨r0, r1, r2, r3, r4, r5⟩ := (HRow.out _ ks5).cells
          dsimp only at r0 r1 r2 r3 r4 r5
          go_wp2_with fail
          refine (c2'.out _ _ ks5 km5).mono ?_
          rintro e w6 ⟨rfl, km6, hg6⟩
          have HS6 := Lib.hid (HG.out _ _ ks5 hg6)
          rw [← HRC.out] at km6
          have HM6 := Lib.hid km6
          clear ks5 km5 km6 hg6 c2' r0 r1 r2 r3 r4 r5
          go_wp2
          go_roundw
          case rel => exact ⟨c + 1, N' + 1 + 1, by omega, by go_num, HS6.out, HM6.out, by omega⟩
          case measure => simp [intOf]; omega
end Go.Proofs
/- Plain: the walk along a chain, as the program goes it. No program is named here. -/
set_option linter.unusedVariables false
set_option linter.unusedSimpArgs false
namespace Go.Proofs
open Go.RowKit Go.Proofs.Mp

/-- after j steps from n: at c, where the map gives look -/
def Fol (S : List (Nat × Nat)) (D : Nat → Bool) (n j c : Nat) (look : Option Nat) : Prop :=
  itr S n j = some c ∧ (NoHome S n j ∨ (1 ≤ j ∧ NoHome S n (j - 1) ∧ c = n)) ∧ look = mpx S (Dj S D n j) c
theorem Fol.start (S : List (Nat × Nat)) (D : Nat → Bool) (n : Nat) : Fol S D n 0 n (mpx S D n) := ⟨rfl, .inl fun i h1 h2 => by omega, by rw [Dj_zero]⟩
theorem Fol.none {S : List (Nat × Nat)} {D : Nat → Bool} {n j c : Nat} (hS : Inj S) (ho : Mp.Open S D n) (h : Fol S D n j c none) : chain S n = wayL S n j ∧ mpx S (Dj S D n j) = mpx S (adv S D n) := by
  obtain ⟨hc, hn, hl⟩ := h
  rcases hn with hn | ⟨h1, hn, rfl⟩
  · rw [follow_next hS ho hc hn] at hl
    exact follow_end hS hc hn hl.symm
  · obtain ⟨b, hb, hbc⟩ := itr_succ.1 (show itr S c (j - 1 + 1) = some c by rw [Nat.sub_add_cancel h1]; exact hc)
    have := follow_back (D := D) hS hb hn hbc
    rwa [Nat.sub_add_cancel h1] at this
theorem Fol.next {S : List (Nat × Nat)} {D : Nat → Bool} {n j c k : Nat} (hS : Inj S) (ho : Mp.Open S D n) (h : Fol S D n j c (some k)) :
    j ≤ S.length ∧ wayL S n (j + 1) = wayL S n j ++ [k] ∧ (c, k) ∈ S ∧ Fol S D n (j + 1) k (mpx S (Dj S D n (j + 1)) k) ∧ ∀ x : Int, mapV S (Dj S D n (j + 1)) x = strV (mapV S (Dj S D n j)) (c : Int) x := by
  obtain ⟨hc, hn, hl⟩ := h
  rcases hn with hn | ⟨h1, hn, rfl⟩
  · rw [follow_next hS ho hc hn] at hl
    have hk := hl.symm
    have hk1 : itr S n (j + 1) = some k := itr_succ.2 ⟨c, hc, hk⟩
    refine ⟨nohome_len hS hc hn, wayL_next hc hk, (nx_mem hS).1 hk, ⟨hk1, ?_, rfl⟩, ?_⟩
    · by_cases hkn : k = n
      · exact .inr ⟨by omega, hn, hkn⟩
      · left
        intro i h1 h2
        rcases Nat.lt_or_ge i (j + 1) with g | g
        · exact hn i h1 (by omega)
        · obtain rfl : i = j + 1 := by omega
          rw [hk1]
          intro e
          injection e with e
          exact hkn e
    · intro x
      rw [Dj_succ hc]
      unfold strV mapV
      by_cases h0 : 0 ≤ x
      · rw [if_pos h0, if_pos h0, mpx_struck]
        by_cases hx : x = (c : Int)
        · rw [if_pos hx, if_pos (by omega)]; rfl
        · rw [if_neg hx, if_neg (by omega)]
      · rw [if_neg h0, if_neg (by omega), if_neg h0]
  · rw [follow_home h1] at hl
    cases hl
theorem mapV_look (S : List (Nat × Nat)) (D : Nat → Bool) (n : Nat) : mapV S D (n : Int) = (mpx S D n).map fun k => Value.int .i64 (k : Int) := by unfold mapV; rw [if_pos (by omega)]; simp
theorem mapV_congr {S : List (Nat × Nat)} {D D' : Nat → Bool} (h : mpx S D = mpx S D') : mapV S D = mapV S D' := by unfold mapV; rw [h]
/-- the edges as integers -/
def ci (c : List Nat) : List Int := c.map fun n : Nat => (n : Int)
theorem ci_len (c : List Nat) : (ci c).length = c.length := by simp [ci]
theorem ci_app (a b : List Nat) : ci (a ++ b) = ci a ++ ci b := by simp [ci]
/-- edges that fit -/
def Small (S : List (Nat × Nat)) : Prop := S.length ≤ 10000 ∧ ∀ p ∈ S, p.1 ≤ 20000 ∧ p.2 ≤ 20000
theorem wf_nat {n : Nat} (h : n ≤ 20000) : (Lit.int .i64 (n : Int)).wf = true := by simp [Lit.wf, IntKind.min, IntKind.max, IntKind.bits, IntKind.signed]; omega
theorem Small.itr {S : List (Nat × Nat)} (hS : Inj S) (h : Small S) {n : Nat} (hn : n ≤ 20000) : ∀ {j c}, itr S n j = some c → c ≤ 20000
  | 0, c, hc => by
    unfold Mp.itr at hc
    injection hc with hc
    omega
  | j + 1, c, hc => by
    obtain ⟨b, _, hbc⟩ := itr_succ.1 hc
    exact (h.2 _ ((nx_mem hS).1 hbc)).2

/-- blocks below base stay, but two -/
structure Keep2 (base p q : Nat) (w w' : World) : Prop where
  os : w'.os = w.os
  tape : w'.tape = w.tape
  output : w'.output = w.output
  size : w.heap.size ≤ w'.heap.size
  block : ∀ i, i < base → i ≠ p → i ≠ q → w'.heap[i]? = w.heap[i]?
theorem Keep2.refl (base p q : Nat) (w : World) : Keep2 base p q w w := ⟨rfl, rfl, rfl, Nat.le_refl _, fun _ _ _ _ => rfl⟩
theorem Keep2.trans {base p q : Nat} {a b c : World} (h : Keep2 base p q a b) (g : Keep2 base p q b c) : Keep2 base p q a c :=
  ⟨g.os.trans h.os, g.tape.trans h.tape, g.output.trans h.output, Nat.le_trans h.size g.size, fun i h1 h2 h3 => (g.block i h1 h2 h3).trans (h.block i h1 h2 h3)⟩
theorem Keep2.cell {base p q : Nat} {w w' : World} (h : Keep2 base p q w w') {i j : Nat} (h1 : i < base) (h2 : i ≠ p) (h3 : i ≠ q) : w'.cell? ⟨i, j, none⟩ = w.cell? ⟨i, j, none⟩ := by
  unfold World.cell?
  rw [h.block i h1 h2 h3]
theorem Keep2.below {base p q n : Nat} {w0 w w' : World} (h : Keep2 base p q w w') (hb : Below n w0 w) (h1 : n ≤ base) (h2 : n ≤ p) (h3 : n ≤ q) : Below n w0 w' :=
  hb.trans ⟨h.os, h.tape, h.output, h.size, fun i hi => h.block i (by omega) (by omega) (by omega)⟩
theorem Keep2.of_grown {base p q : Nat} {w w' : World} {row : Option Nat} (h : w.grownBy w' row) (hr : ∀ j, row = some j → j = p ∨ j = q ∨ base ≤ j) (hb : base ≤ w.heap.size) : Keep2 base p q w w' := by
  refine ⟨h.os, h.tape, h.output, h.size, fun i h1 h2 h3 => h.block i (by omega) fun e => ?_⟩
  rcases hr i e.symm with g | g | g <;> omega
def encV (v : Value) : List Value := [v]
theorem encV_len (v : Value) : (encV v).length = 1 := rfl
/-- the rows in L, which are only read: their slices lie in a row of the call's own, in the value vl -/
def ChR (w : World) (base : Nat) (vl : Value) (L : List (List Int)) : Prop :=
  ∃ vs : List Value, vs.length = L.length ∧ Own 75 1 encV w base vl vs ∧ ∀ i, i < vs.length → ∃ g cap, vs[i]! = .slice (some ⟨g, 0, none⟩) L[i]!.length cap ∧ base ≤ g ∧ g < w.heap.size ∧ vl.ownBlock ≠ some g ∧ RdI w (some ⟨g, 0, none⟩) L[i]!
theorem ChR.nil (w : World) (base : Nat) : ChR w base (.slice none 0 0) [] := ⟨[], rfl, Own.nil w base, fun i hi => by simp at hi⟩
theorem ChR.len {w : World} {base : Nat} {vl : Value} {L : List (List Int)} (h : ChR w base vl L) : ∃ A c, vl = .slice A L.length c := by
  obtain ⟨vs, h1, h2, _⟩ := h
  rw [← h1]
  exact Own.slice h2
theorem RdI.grown {w w' : World} {g : Nat} {xs : List Int} {row : Option Nat} (h : RdI w (some ⟨g, 0, none⟩) xs) (hg : w.grownBy w' row) (hl : g < w.heap.size) (hne : row ≠ some g) : RdI w' (some ⟨g, 0, none⟩) xs := by
  rcases h with h | ⟨b, off, he, hb, hc⟩
  · exact .inl h
  · injection he with he
    injection he with e1 e2
    subst e1 e2
    refine .inr ⟨g, 0, rfl, Nat.lt_of_lt_of_le hb hg.size, fun j hj i u hu => ?_⟩
    have := hc j hj i u hu
    unfold World.cell? at this ⊢
    rw [hg.block g hl (fun e => hne e.symm)]
    exact this
theorem ChR.kept {w w' : World} {base : Nat} {vl : Value} {L : List (List Int)} {row : Option Nat} (h : ChR w base vl L) (hg : w.grownBy w' row) (hr : ∀ j, row = some j → j < base) : ChR w' base vl L := by
  obtain ⟨vs, h1, h2, h3⟩ := h
  refine ⟨vs, h1, World.ownsRow.kept h2 hg ?_, fun i hi => ?_⟩
  · rcases hb : vl.ownBlock with _ | j
    · exact .inl rfl
    · refine .inr fun e => ?_
      have := hr j e.symm
      have := (World.ownsRow.lt h2 j hb).1
      omega
  · obtain ⟨g, cap, g1, g2, g3, g4, g5⟩ := h3 i hi
    refine ⟨g, cap, g1, g2, Nat.lt_of_lt_of_le g3 hg.size, g4, RdI.grown g5 hg g3 fun e => ?_⟩
    have := hr g e
    omega
theorem ChR.below {w w' : World} {base : Nat} {vl : Value} {L : List (List Int)} (h : ChR w base vl L) (hb : Below w.heap.size w w') : ChR w' base vl L := h.kept (below_gr hb) (fun j e => by cases e)
end Go.Proofs
/- follow. -/
set_option linter.unusedVariables false
set_option linter.unusedSimpArgs false
namespace Go.Proofs
open Go.RowKit Go.Proofs.Mp

theorem own_lit1 (w : World) (x : Int) : OwnI 3 (w.alloc (.cells #[.int .i64 x] 3)) w.heap.size (.slice (some ⟨w.heap.size, 0, none⟩) 1 1) [x] :=
  ⟨by simp [Mp.encI], .inr ⟨w.heap.size, 1, #[.int .i64 x], rfl, Nat.le_refl _, heap_alloc_new w _, Nat.le_refl _, by unfold maxLen; omega, rfl, by simp [Mp.encI]⟩⟩
theorem Try.appC {w : World} {base : Nat} {v : Value} {xs : List Int} {ops : Array Oper} {rest : List Oper} {o : Oper} {a : Act} {Q : Exit → Act → World → Prop}
    (hown : OwnI 3 w base v xs) (y : Int) (hgd : o.guard = none) (s x : Operand)
    (ho : o.op = .call { callee := .builtin .append, args := #[s, x], argTypes := #[75, 75] }) (hs : a.eval s = v) (hx : a.eval x = .slice (some ⟨w.heap.size, 0, none⟩) 1 1)
    (hN : xs.length + 1 ≤ 1000000000000) (hbase : base ≤ w.heap.size)
    (h : ∀ v' w', OwnI 3 w' base v' (xs ++ [y]) → Below base w w' → wpList Try.prog ops Q rest (a.put o.dst v') w') :
    wpList Try.prog ops Q (o :: rest) a (w.alloc (.cells #[.int .i64 y] 3)) := by
  obtain ⟨i0, hi, hz0, hz1, hz2⟩ := Mp.info_parts Try.infoI
  exact Own.append1 75 i0 (.int .i64 0) 8 Try.underlying75 hi hz0 hz1 hz2 rfl (by decide) (by decide) Mp.encI_len Mp.encI_one hgd s x ho hown hs y hx (by omega) hbase h
theorem Try.info75 : (Try.prog.info? 75).map (fun i => (i.zero, i.size, i.bytes)) = some (some (.slice none 0 0), 1, 24) := by kernel_rfl
theorem Try.appL {w : World} {base : Nat} {v : Value} {xs : List Value} {ops : Array Oper} {rest : List Oper} {o : Oper} {a : Act} {Q : Exit → Act → World → Prop}
    (hown : Own 75 1 encV w base v xs) (y : Value) (hy : y.oneCell' = true) (hgd : o.guard = none) (s x : Operand)
    (ho : o.op = .call { callee := .builtin .append, args := #[s, x], argTypes := #[73, 73] }) (hs : a.eval s = v) (hx : a.eval x = .slice (some ⟨w.heap.size, 0, none⟩) 1 1)
    (hN : xs.length + 1 ≤ 1000000000) (hbase : base ≤ w.heap.size)
    (h : ∀ v' w', Own 75 1 encV w' base v' (xs ++ [y]) → w.grownBy w' v.ownBlock → (v'.ownBlock = v.ownBlock ∨ ∃ j, v'.ownBlock = some j ∧ w.heap.size ≤ j) → wpList Try.prog ops Q rest (a.put o.dst v') w') :
    wpList Try.prog ops Q (o :: rest) a (w.alloc (.cells #[y] 75)) := by
  obtain ⟨i0, hi, hz0, hz1, hz2⟩ := Mp.info_parts Try.info75
  exact OwnA.append1 (av := fun _ => False) (enc := encV) 73 i0 (.slice none 0 0) 24 Try.underlying73 hi hz0 hz1 hz2 rfl (by decide) (by decide) encV_len y (fun u hu => by rw [List.mem_singleton.1 hu]; exact hy) hgd s x ho ⟨hown, fun _ _ h => h⟩ (fun _ h => h.elim) hs hx (by omega) hbase
    (fun v' w' ho' hg' hl' => h v' w' ho'.1 hg' hl')
/-- a further row -/
theorem ChR.push {w w' : World} {base g cap : Nat} {vl vl' : Value} {L : List (List Int)} {vs : List Value} {x : List Int} (h1 : vs.length = L.length) (h3 : ∀ i, i < vs.length → ∃ g cap, vs[i]! = .slice (some ⟨g, 0, none⟩) L[i]!.length cap ∧ base ≤ g ∧ g < w.heap.size ∧ vl.ownBlock ≠ some g ∧ RdI w (some ⟨g, 0, none⟩) L[i]!)
    (ho : Own 75 1 encV w' base vl' (vs ++ [.slice (some ⟨g, 0, none⟩) x.length cap])) (hg : w.grownBy w' vl.ownBlock) (hl : vl'.ownBlock = vl.ownBlock ∨ ∃ j, vl'.ownBlock = some j ∧ w.heap.size ≤ j) (hb : base ≤ g) (hgl : g < w.heap.size) (hne : vl.ownBlock ≠ some g) (hR : RdI w (some ⟨g, 0, none⟩) x) : ChR w' base vl' (L ++ [x]) := by
  have hn : ∀ q, q < w.heap.size → vl.ownBlock ≠ some q → vl'.ownBlock ≠ some q := by
    intro q hq hne e
    rcases hl with hl | ⟨j, hl, hj⟩
    · exact hne (hl ▸ e)
    · rw [hl] at e
      injection e with e
      omega
  refine ⟨_, by simp [h1], ho, fun i hi => ?_⟩
  rw [List.length_append, List.length_singleton] at hi
  by_cases hlt : i < vs.length
  · obtain ⟨g', cap', g1, g2, g3, g4, g5⟩ := h3 i hlt
    have e1 : (vs ++ [Value.slice (some ⟨g, 0, none⟩) x.length cap])[i]! = vs[i]! := by
      rw [getElem!_pos _ i (by simp; omega), getElem!_pos _ i hlt, List.getElem_append_left hlt]
    have e2 : (L ++ [x])[i]! = L[i]! := by
      rw [getElem!_pos _ i (by simp; omega), getElem!_pos _ i (by omega), List.getElem_append_left (by omega)]
    rw [e1, e2]
    exact ⟨g', cap', g1, g2, Nat.lt_of_lt_of_le g3 hg.size, hn _ g3 g4, RdI.grown g5 hg g3 g4⟩
  · obtain rfl : i = vs.length := by omega
    have e1 : (vs ++ [Value.slice (some ⟨g, 0, none⟩) x.length cap])[vs.length]! = .slice (some ⟨g, 0, none⟩) x.length cap := by
      rw [getElem!_pos _ _ (by simp)]; simp
    have e2 : (L ++ [x])[vs.length]! = x := by
      rw [getElem!_pos _ _ (by simp [h1])]; simp [h1]
    rw [e1, e2]
    exact ⟨g, cap, rfl, hb, Nat.lt_of_lt_of_le hgl hg.size, hn _ hgl hne, RdI.grown hR hg hgl hne⟩
theorem grown_after {w w1 w2 : World} {row : Option Nat} (h : w.grownBy w1 row) (hb : Below w.heap.size w1 w2) : w.grownBy w2 row :=
  ⟨hb.os.trans h.os, hb.tape.trans h.tape, hb.output.trans h.output, Nat.le_trans h.size hb.size, fun i hi hne => (hb.block i hi).trans (h.block i hi hne)⟩
theorem own_at {w : World} {base : Nat} {v : Value} {xs : List Int} (h : OwnI 3 w base v xs) (h0 : xs ≠ []) : ∃ g cap, v = .slice (some ⟨g, 0, none⟩) xs.length cap ∧ base ≤ g ∧ g < w.heap.size ∧ RdI w (some ⟨g, 0, none⟩) xs := by
  have h1 := h
  rcases h.2 with ⟨rfl, hn⟩ | ⟨g, cap, cur, rfl, hb, hh, hnc, _⟩
  · exact absurd (List.length_eq_zero_iff.1 hn) h0
  · exact ⟨g, cap, rfl, hb, (World.ownsRow.lt h1 g rfl).2, Own.rd Mp.encI_len h1⟩
theorem grown_set (w : World) (g i : Nat) (v : Value) : w.grownBy (w.setCell ⟨g, i, none⟩ v) (some g) :=
  ⟨rfl, rfl, rfl, by simp [World.setCell], fun k hk hne => by rw [heap_setCell_other _ _ _ _ (by intro e; exact hne (by rw [e]))]⟩
theorem set_same (w : World) {g : Nat} (v : Value) {u : Value} (h : w.cell? ⟨g, 0, none⟩ = some u) : (w.setCell ⟨g, 0, none⟩ v).cell? ⟨g, 0, none⟩ = some v := by
  unfold World.cell? World.setCell at *
  rcases hh : w.heap[g]? with _ | ob
  · rw [hh] at h; cases h
  · rw [hh] at h
    have hlt : g < w.heap.size := (Array.getElem?_eq_some_iff.1 hh).1
    cases ob with
    | cells c e f =>
      have h0 : c[0]? = some u := h
      have hs : 0 < c.size := (Array.getElem?_eq_some_iff.1 h0).1
      simp [Array.getElem?_modify, hh, hs]
    | _ => cases h
theorem set_frozen (w : World) (g : Nat) (v : Value) (p : Addr) : (w.setCell ⟨g, 0, none⟩ v).frozen? p = w.frozen? p := by
  simp
def lenOfV : Value → Nat | .slice _ n _ => n | _ => 0

set_option maxRecDepth 100000 in
set_option maxHeartbeats 8000000 in
theorem con_follow (S : List (Nat × Nat)) (D : Nat → Bool) (n pn pl B base N : Nat) (vl : Value) (L : List (List Int)) (w : World) (hS : Inj S) (hsm : Small S) (ho : Mp.Open S D n) (hn : n ≤ 20000)
    (hc : w.cell? ⟨pn, 0, none⟩ = some (.map (some B))) (hpn : pn < base) (hpl : pl < base) (hB : B < base) (hne1 : pn ≠ pl) (hne2 : pn ≠ B) (hne3 : pl ≠ B) (hb : base ≤ w.heap.size) (hN : N ≤ 10000)
    (hl : w.cell? ⟨pl, 0, none⟩ = some vl) (hf : w.frozen? ⟨pl, 0, none⟩ = false) (hM : MapV Try.prog 3 w B N (mapV S D)) (hL : ChR w base vl L) (hLl : L.length ≤ 100000) :
    Calls Try.prog 70 #[.int .i64 n, .pointer (some ⟨pn, 0, none⟩), .pointer (some ⟨pl, 0, none⟩)] w (fun e w' => e = .returned (.tuple #[]) ∧ Keep2 base B pl w w' ∧ MapV Try.prog 3 w' B N (mapV S (adv S D n)) ∧ ∃ vl', w'.cell? ⟨pl, 0, none⟩ = some vl' ∧ w'.frozen? ⟨pl, 0, none⟩ = false ∧ ChR w' base vl' (L ++ [ci (chain S n)])) := by
  have hu89 := Try.underlying89
  have hu3 := Try.underlying3
  have hwl : ∀ W, (zeroValue 3).run Try.prog W = .ok (.int .i64 0) W := fun W => by kernel_rfl
  have hO0 : OwnI 3 (w.alloc (.cells #[.int .i64 n] 3)) w.heap.size (.slice (some ⟨w.heap.size, 0, none⟩) 1 1) (ci (wayL S n 0)) := own_lit1 w n
  have hM0 := hM.below (bw1 w (.cells #[.int .i64 n] 3))
  have hcw := Lib.hid fun (W : World) (hW : w.grownBy W (some B)) => (show W.cell? ⟨pn, 0, none⟩ = some (.map (some B)) from by
    have := hW.block pn (by omega) (fun e => hne2 (by cases e; rfl))
    unfold World.cell? at hc ⊢
    rw [this] <;> exact hc)
  go_enter Try.func70, Try.ntmps70
  have HF0 := Lib.hid (Fol.start S D n)
  have HD0 := Lib.hid (Dj_zero S D n)
  rw [← HD0.out] at hM0
  have hml := mapV_look S (Dj S D n 0) n
  rw [HD0.out] at hml
  obtain ⟨look0, hlk⟩ : ∃ q, mpx S D n = q := ⟨_, rfl⟩
  rw [hlk] at hml HF0
  have HMS := Lib.hid (show (mapV S (Dj S D n 0) (n : Int)).isSome = look0.isSome by rw [HD0.out, hml]; cases look0 <;> rfl)
  have HMV := Lib.hid (show ∀ k, look0 = some k → (mapV S (Dj S D n 0) (n : Int)).getD (.int .i64 0) = .int .i64 (k : Int) by intro k hk; rw [HD0.out, hml, hk]; rfl)
  have hwf := wf_nat hn
  have hg0 : w.grownBy (w.alloc (.cells #[.int .i64 n] 3)) (some B) := grown_below (bw1 _ _)
  have hcn := hcw.out _ hg0
  have hs0 : w.heap.size < (w.alloc (.cells #[.int .i64 n] 3)).heap.size := by simp
  clear hml hlk
  go_upto_region 1 with fail
  generalize (w.alloc (.cells #[.int .i64 n] 3)) = w0 at *
  obtain ⟨vm, hvm⟩ : ∃ v, (mapV S (Dj S D n 0) (n : Int)).getD (.int .i64 0) = v := ⟨_, rfl⟩
  rw [hvm] at HMV
  have HV := Lib.hid hvm
  clear hvm
  go_wp2_with (refine MapV.look_ok hM0 rfl _ _ rfl hu89 hu3 (hwl _) rfl (n : Int) rfl hwf HV.out HMS.out ?_)
  clear hcn hwf
  go_loopw [0, 4, 5, 6] (fun v0 v4 v5 v6 wr => ∃ (j c : Nat) (look : Option Nat), Hid (Fol S D n j c look) ∧ v0 = .int .i64 (c : Int) ∧ v6 = .bool look.isSome ∧ (∀ k, look = some k → v5 = .int .i64 (k : Int)) ∧ OwnI 3 wr w.heap.size v4 (ci (wayL S n j)) ∧ MapV Try.prog 3 wr B N (mapV S (Dj S D n j)) ∧ w.grownBy wr (some B)) (fun _ v4 _ _ _ => S.length + 2 - lenOfV v4)
  case atStart => exact ⟨0, n, look0, HF0, rfl, rfl, HMV.out, hO0, hM0, hg0⟩
  case round =>
    clear hO0 hM0 hg0 HF0 HMV HMS HV HD0 hs0
    obtain ⟨j, c, look, hF, rfl, rfl, hv5, hown, hm, hg⟩ := hrel
    have hcn := hcw.out _ hg
    have hwl2 : (ci (wayL S n j)).length = j + 1 := by rw [ci_len, wayL_len]
    have hne : ci (wayL S n j) ≠ [] := fun e => by rw [e] at hwl2; simp at hwl2
    obtain ⟨g, cap, rfl, hbg, hgl, hRg⟩ := own_at hown hne
    rw [hwl2]
    have hcN := Small.itr hS hsm hn hF.out.1
    cases look with
    | none =>
      obtain ⟨hch, hmp⟩ := Fol.none hS ho hF.out
      rw [← hch] at hown hRg hwl2
      have HM := Lib.hid (show MapV Try.prog 3 wr B N (mapV S (adv S D n)) by rw [← mapV_congr hmp]; exact hm)
      have hLr := hL.kept hg (fun q e => by injection e with e; omega)
      have hplc : wr.cell? ⟨pl, 0, none⟩ = some vl := by
        have := hg.block pl (by omega) (fun e => hne3 (by cases e; rfl))
        unfold World.cell? at hl ⊢
        rw [this]; exact hl
      have hplf : wr.frozen? ⟨pl, 0, none⟩ = false := by
        have := hg.block pl (by omega) (fun e => hne3 (by cases e; rfl))
        unfold World.frozen? at hf ⊢
        rw [this]; exact hf
      obtain ⟨vs, g1, g2, g3⟩ := hLr
      have hws := hg.size
      have hvlb : vl.ownBlock ≠ some g := fun e => by
        have hLw := hL
        obtain ⟨vs', _, q2, _⟩ := hLw
        have := (World.ownsRow.lt q2 g e).2
        omega
      have HPF := Lib.hid fun (w9 : World) (hg9 : wr.grownBy w9 vl.ownBlock) => (show w9.frozen? ⟨pl, 0, none⟩ = false from by
        have := hg9.block pl (by omega) (fun e => by have := (World.ownsRow.lt g2 pl e.symm).1; omega)
        unfold World.frozen? at hplf ⊢
        rw [this] <;> exact hplf)
      have HPC := Lib.hid fun (w9 : World) (hg9 : wr.grownBy w9 vl.ownBlock) => (show w9.cell? ⟨pl, 0, none⟩ = some vl from by
        have := hg9.block pl (by omega) (fun e => by have := (World.ownsRow.lt g2 pl e.symm).1; omega)
        unfold World.cell? at hplc ⊢
        rw [this] <;> exact hplc)
      clear hm hown hF hv5 hcn
      go_wp2_with (at_builtin; refine Try.appL g2 _ rfl rfl _ _ rfl rfl rfl (by omega) (by omega) ?_; intro v9 w9 ho9 hg9 hl9; obtain ⟨A9, c9, rfl⟩ := Own.slice ho9; rw [show (vs ++ [Value.slice (some ⟨g, 0, none⟩) (j + 1) cap]).length = L.length + 1 by simp [g1]] at ho9 hl9 ⊢; have hpf9 := HPF.out w9 hg9; have hpc9 := HPC.out w9 hg9)
      go_end0
      have hbw : vl.ownBlock ≠ some pl := fun e => by have := (World.ownsRow.lt g2 pl e).1; omega
      have hbB : vl.ownBlock ≠ some B := fun e => by have := (World.ownsRow.lt g2 B e).1; omega
      have hob : (Value.slice A9 (L.length + 1) c9).ownBlock ≠ some pl := fun e => by have := (World.ownsRow.lt ho9 pl e).1; omega
      rw [← hwl2] at ho9
      have hch := ChR.push g1 g3 ho9 hg9 hl9 (by omega) hgl hvlb hRg
      have hg10 := grown_set w9 pl 0 (Value.slice A9 (L.length + 1) c9)
      have hsz9 := hg9.size
      refine ⟨rfl, ?_, ?_, _, ?_, ?_, hch.kept hg10 (fun q e => by injection e with e; omega)⟩
      · refine ((Keep2.of_grown (q := pl) hg (fun q e => .inl (by injection e with e; exact e.symm)) hb).trans (Keep2.of_grown hg9 (fun q e => .inr (.inr (World.ownsRow.lt g2 q e).1)) (by omega))).trans (Keep2.of_grown hg10 (fun q e => .inr (.inl (by injection e with e; exact e.symm))) (by omega))
      · exact (HM.out.kept hg9 (fun e => hbB e.symm)).kept hg10 (fun e => hne3 (by injection e with e; exact e.symm))
      · exact set_same w9 _ (HPC.out w9 hg9)
      · rw [set_frozen]; exact hpf9
    | some k =>
      rw [hwl2] at hown
      obtain ⟨hj1, hw1, hmem, hF1, hst⟩ := Fol.next hS ho hF.out
      have hkN := (hsm.2 _ hmem).2
      obtain rfl := hv5 k rfl
      have hwf := wf_nat hcN
      have hwfk := wf_nat hkN
      have HF1 := Lib.hid hF1
      have hml := mapV_look S (Dj S D n (j + 1)) k
      obtain ⟨look1, hlk⟩ : ∃ q, mpx S (Dj S D n (j + 1)) k = q := ⟨_, rfl⟩
      rw [hlk] at hml HF1
      have HMS := Lib.hid (show (mapV S (Dj S D n (j + 1)) (k : Int)).isSome = look1.isSome by rw [hml]; cases look1 <;> rfl)
      have HMV := Lib.hid (show ∀ q, look1 = some q → (mapV S (Dj S D n (j + 1)) (k : Int)).getD (.int .i64 0) = .int .i64 (q : Int) by intro q hq; rw [hml, hq]; rfl)
      obtain ⟨vm1, hvm⟩ : ∃ v, (mapV S (Dj S D n (j + 1)) (k : Int)).getD (.int .i64 0) = v := ⟨_, rfl⟩
      rw [hvm] at HMV
      have HV := Lib.hid hvm
      have HW1 := Lib.hid (show ci (wayL S n (j + 1)) = ci (wayL S n j) ++ [(k : Int)] by rw [hw1, ci_app]; rfl)
      have HST := Lib.hid hst
      clear hml hlk hvm hst hF1 hF hv5 hmem hne hRg
      have hlw2 : (ci (wayL S n j)).length ≤ 10001 := by have := hsm.1; omega
      have HMK := Lib.hid fun (W : World) (h : MapV Try.prog 3 W B N (strV (mapV S (Dj S D n j)) (c : Int))) => (h.congr fun x => (HST.out x).symm : MapV Try.prog 3 W B N (mapV S (Dj S D n (j + 1))))
      go_wp2_with (first
        | (refine MapV.strike hm rfl _ _ rfl hu89 hu3 rfl (c : Int) rfl hwf ?_; clear hm hcn; intro w5 hm5 hg5; have hg15 := hg.trans hg5; have hcn := hcw.out _ hg15; have hown5 := World.ownsRow.kept hown hg5 (.inr (fun e => by have := (World.ownsRow.lt hown B e).1; omega)))
        | (at_builtin; refine Try.appC hown5 (k : Int) rfl _ _ rfl rfl rfl (by omega) (by have := hg15.size; omega) ?_; intro v6 w6 hown6 hb6; have hg16 := grown_after hg15 hb6; have hm6 := (HMK.out _ hm5).belowN hb6 (show B < w.heap.size by omega); clear hcn; have hcn := hcw.out _ hg16)
        | (refine MapV.look_ok hm6 rfl _ _ rfl hu89 hu3 (hwl _) rfl (k : Int) rfl hwfk HV.out HMS.out ?_))
      have hl6 : lenOfV v6 = j + 2 := by
        obtain ⟨A6, c6, e6⟩ := Own.slice hown6
        rw [e6]
        show (ci (wayL S n j) ++ [(k : Int)]).length = j + 2
        rw [List.length_append, hwl2]
        rfl
      rw [← HW1.out] at hown6
      go_roundw
      case rel => exact ⟨j + 1, k, look1, HF1, rfl, rfl, HMV.out, hown6, hm6, hg16⟩
      case measure => rw [hl6]; show S.length + 2 - (j + 2) < S.length + 2 - (j + 1); omega
end Go.Proofs
