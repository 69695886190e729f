/- A map from integers of the call's own, read as a function into values of whatever kind. No program is named here. -/
import Derived.WalkKit
import Derived.Maps.Own
import Derived.Maps.OwnOps
import Derived.Maps.OwnSet
import Derived.Maps.Views
import Derived.Test.YtaaejdhdkipdlaaXJ2
import Derived.Test.YtaaejdhdkipdlaaXV2
set_option linter.unusedVariables false
set_option linter.unusedSimpArgs false
namespace Go.Proofs.Mp
open Go.RowKit Go.Maps Go.Proofs.Uf

/-- an element reads as itself -/
def rawE (v : Value) : Option (DataW Value × List MemPlace) := some (.held v, [])
theorem rawE_inv {v : Value} {d : DataW Value} {ps : List MemPlace} (h : rawE v = some (d, ps)) : d = .held v := by
  unfold rawE at h
  injection h with h
  injection h with h1 h2
  exact h1.symm
def setV (f : Int → Option Value) (n : Int) (v : Value) : Int → Option Value := fun z => if z = n then some v else f z
theorem setV_same (f : Int → Option Value) (n : Int) (v : Value) : setV f n v n = some v := if_pos rfl
theorem setV_ne {f : Int → Option Value} {n z : Int} {v : Value} (h : z ≠ n) : setV f n v z = f z := if_neg h
/-- block B is a map of at most N entries that holds f -/
def MapV (P : Program) (k : TypeId) (w : World) (B N : Nat) (f : Int → Option Value) : Prop :=
  ∃ D : DataW Value, w.ownsMap P k rawE B (Maps.size D) D ∧ Maps.size D ≤ N ∧ (∀ x, Maps.has D (keyI x) = (f x).isSome) ∧ ∀ x z, D.atKey (keyI x) (.held z) = .held ((f x).getD z)

section
variable {P : Program} {k e t : TypeId} {w w' : World} {B N : Nat} {f : Int → Option Value}
theorem MapV.lt (h : MapV P k w B N f) : B < w.heap.size := by obtain ⟨D, h1, _⟩ := h; exact h1.lt
theorem MapV.kept {row : Option Nat} (h : MapV P k w B N f) (hg : w.grownBy w' row) (hne : some B ≠ row) : MapV P k w' B N f := by
  obtain ⟨D, h1, r⟩ := h
  exact ⟨D, h1.kept hg hne, r⟩
theorem MapV.belowN (h : MapV P k w B N f) {n : Nat} (hb : Below n w w') (hn : B < n) : MapV P k w' B N f := by
  obtain ⟨D, ⟨es, clock, hh, r⟩, q⟩ := h
  exact ⟨D, ⟨es, clock, (hb.block B hn).trans hh, r⟩, q⟩
theorem MapV.below (h : MapV P k w B N f) (hb : Below w.heap.size w w') : MapV P k w' B N f := h.belowN hb h.lt
theorem MapV.mono (h : MapV P k w B N f) {N' : Nat} (hN : N ≤ N') : MapV P k w B N' f := by
  obtain ⟨D, h1, h2, r⟩ := h
  exact ⟨D, h1, Nat.le_trans h2 hN, r⟩
theorem MapV.made (w : World) : MapV P k (w.alloc (.map #[] 0)) w.heap.size 0 (fun _ => none) := by
  refine ⟨.map [], World.ownsMap_made w P k _, Nat.le_refl _, fun x => by simp [Maps.has], fun x z => rfl⟩
theorem ownsMapV_exact {D : DataW Value} {n : Nat} (h : w.ownsMap P k rawE B n D) : w.ownsMap P k rawE B (Maps.size D) D := by
  obtain ⟨es, clock, hb, F, hs, rfl⟩ := h
  exact ⟨es, clock, hb, F, by simp [Maps.size, length_sorted], rfl⟩
end

section
variable {P : Program} {k e t : TypeId} {w : World} {B N : Nat} {f : Int → Option Value} {ops : Array Oper} {rest : List Oper} {o : Oper} {a : Act} {Q : Exit → Act → World → Prop}
theorem MapV.run (h : MapV P k w B N f) (ht : P.underlying t = some (.map k e)) (hk : P.underlying k = some (.int .i64)) {z : Value} (hz : (zeroValue e).run P w = .ok z w) (n : Int) (hwf : (Lit.int .i64 n).wf = true) :
    (Instr.lookup t (.map (some B)) (.int .i64 n) false).run P w = .ok ((f n).getD z) w := by
  obtain ⟨D, h1, h2, h3, h4⟩ := h
  obtain ⟨v, ps, hrun, hv⟩ := h1.lookup (int_keyed hk) ht hz (zd := .held z) (zp := []) rfl (keyOf_int_mk hk hwf)
  have e1 := rawE_inv hv
  rw [h4 n z] at e1
  injection e1 with e1
  rw [hrun, e1]
theorem MapV.look (h : MapV P k w B N f) (hg : o.guard = none) (m x : Operand) (hop : o.op = Op.lookup t m x false) (ht : P.underlying t = some (.map k e)) (hk : P.underlying k = some (.int .i64)) {z : Value} (hz : (zeroValue e).run P w = .ok z w)
    (hm : a.eval m = .map (some B)) (n : Int) (hx : a.eval x = .int .i64 n) (hwf : (Lit.int .i64 n).wf = true) {v : Value} (hv : (f n).getD z = v) (hK : wpList P ops Q rest (a.put o.dst v) w) : wpList P ops Q (o :: rest) a w := by
  refine wpList_plain hg fun K' hK' => ?_
  have hrun := h.run ht hk hz n hwf
  rw [hv] at hrun
  unfold Oper.wp
  simp [execOp, hop, hm, hx, hrun, Result.andThen]
  exact hK' _ _ hK
theorem MapV.exec (h : MapV P k w B N f) (m x : Operand) (hop : o.op = Op.lookup t m x false) (ht : P.underlying t = some (.map k e)) (hk : P.underlying k = some (.int .i64)) {z : Value} (hz : (zeroValue e).run P w = .ok z w)
    (hm : a.eval m = .map (some B)) (n : Int) (hx : a.eval x = .int .i64 n) (hwf : (Lit.int .i64 n).wf = true) {v : Value} (hv : (f n).getD z = v) : (execOp a.eval o).run P w = .ok (.value v) w := by
  have hrun := h.run ht hk hz n hwf
  rw [hv] at hrun
  simp [execOp, hop, hm, hx, hrun, Result.andThen]
theorem MapV.look_ok (h : MapV P k w B N f) (hg : o.guard = none) (m x : Operand) (hop : o.op = Op.lookup t m x true) (ht : P.underlying t = some (.map k e)) (hk : P.underlying k = some (.int .i64)) {z : Value} (hz : (zeroValue e).run P w = .ok z w)
    (hm : a.eval m = .map (some B)) (n : Int) (hx : a.eval x = .int .i64 n) (hwf : (Lit.int .i64 n).wf = true) {v : Value} {b : Bool} (hv : (f n).getD z = v) (hb : (f n).isSome = b)
    (hK : wpList P ops Q rest (a.put o.dst (.tuple #[v, .bool b])) w) : wpList P ops Q (o :: rest) a w := by
  obtain ⟨D, h1, h2, h3, h4⟩ := h
  refine wpList_lookup_own_ok w hg m x t hop k e (int_keyed hk) ht rawE hz (.held z) [] rfl B _ D hm h1 (.int .i64 n) (keyI n) hx (keyOf_int_mk hk hwf) ?_
  intro u ps hu
  have e1 := rawE_inv hu
  rw [h4 n z] at e1
  injection e1 with e1
  rw [← e1, hv, h3 n, hb]
  exact hK
theorem MapV.put (hk : P.underlying k = some (.int .i64)) {w' : World} {D : DataW Value} (h1 : w.ownsMap P k rawE B (Maps.size D) D) (h2 : Maps.size D ≤ N) (h3 : ∀ x, Maps.has D (keyI x) = (f x).isSome)
    (h4 : ∀ x z, D.atKey (keyI x) (.held z) = .held ((f x).getD z)) {x : Int} {v : Value} {M n : Nat} (hM : ((f x).isSome = true ∧ N ≤ M) ∨ N + 1 ≤ M) (hw : w'.ownsMap P k rawE B n (D.put (keyI x) (.held v))) (hkey : WideAt.IsKeyLit (keyI x)) :
    MapV P k w' B M (setV f x v) := by
  have hT := h1.tidy (int_keyed hk)
  have hI := h1.isMap
  refine ⟨_, ownsMapV_exact hw, ?_, fun z => ?_, fun z y => ?_⟩
  · rw [size_put hT]
    split
    · rename_i hh
      rcases hM with ⟨_, hM⟩ | hM <;> omega
    · rename_i hh
      rcases hM with ⟨hx, hM⟩ | hM
      · exact absurd ((h3 x).trans hx) hh
      · omega
  · by_cases he : z = x
    · subst he
      rw [has_put_same hI hkey, setV_same]; rfl
    · rw [has_put_other (by simp [keyI, he]), h3, setV_ne he]
  · by_cases he : z = x
    · subst he
      rw [atKey_put_same hI hkey, setV_same]; rfl
    · rw [atKey_put_other (by simp [keyI, he]), setV_ne he]
      exact h4 z y
theorem MapV.store (h : MapV P k w B N f) (hg : o.guard = none) (m x v : Operand) (hop : o.op = Op.mapUpdate t m x v) (ht : P.underlying t = some (.map k e)) (hk : P.underlying k = some (.int .i64))
    (hm : a.eval m = .map (some B)) (n : Int) (y : Value) (hx : a.eval x = .int .i64 n) (hv : a.eval v = y) (hwf : (Lit.int .i64 n).wf = true) {M : Nat} (hM : ((f n).isSome = true ∧ N ≤ M) ∨ N + 1 ≤ M) (hN : N < maxLen)
    (hK : ∀ w', MapV P k w' B M (setV f n y) → w.grownBy w' (some B) → wpList P ops Q rest (a.put o.dst undef) w') : wpList P ops Q (o :: rest) a w := by
  obtain ⟨D, h1, h2, h3, h4⟩ := h
  refine wpList_mapUpdate_own w hg m x v t hop k e (int_keyed hk) ht rawE B _ D hm h1 (Nat.lt_of_le_of_lt h2 hN) (.int .i64 n) y (keyI n) hx hv (keyOf_int_mk hk hwf) (.held y) [] rfl ?_
  intro w' hw' hg'
  exact hK w' (MapV.put hk h1 h2 h3 h4 hM hw' ((int_keyed hk).key (keyOf_int_mk hk hwf))) hg'
theorem MapV.wpStore {K : Act → World → Prop} (h : MapV P k w B N f) (m x v : Operand) (hop : o.op = Op.mapUpdate t m x v) (ht : P.underlying t = some (.map k e)) (hk : P.underlying k = some (.int .i64))
    (hm : a.eval m = .map (some B)) (n : Int) (y : Value) (hx : a.eval x = .int .i64 n) (hv : a.eval v = y) (hwf : (Lit.int .i64 n).wf = true) {M : Nat} (hM : ((f n).isSome = true ∧ N ≤ M) ∨ N + 1 ≤ M) (hN : N < maxLen)
    (hK : ∀ w', MapV P k w' B M (setV f n y) → w.grownBy w' (some B) → K (a.put o.dst undef) w') : Oper.wp P o a w K Q := by
  obtain ⟨D, h1, h2, h3, h4⟩ := h
  obtain ⟨w', hrun, r1, r2⟩ := h1.update (int_keyed hk) ht (Nat.lt_of_le_of_lt h2 hN) (keyOf_int_mk hk hwf) (val := y) (d := .held y) (ps := []) rfl
  unfold Oper.wp
  simp [execOp, hop, hm, hx, hv, hrun, Result.andThen]
  exact hK _ (MapV.put hk h1 h2 h3 h4 hM r1 ((int_keyed hk).key (keyOf_int_mk hk hwf))) r2
end
end Go.Proofs.Mp
/- distinct and Features: the elements of an order, each at its first place. -/
set_option linter.unusedVariables false
set_option linter.unusedSimpArgs false
namespace Go.Proofs
open Go.RowKit Go.Proofs.Mp Go.Proofs.Uf

theorem bw1 (w : World) (o : Obj) : Below w.heap.size w (w.alloc o) := (Below.refl _ _).alloc (Nat.le_refl _) o
def addL (acc : List Int) (x : Int) : List Int := if x ∈ acc then acc else acc ++ [x]
def distL (l : List Int) : List Int := l.foldl addL []
def distK (l : List Int) (k : Nat) : List Int := distL (l.take k)
theorem distK_succ {l : List Int} {k : Nat} (h : k < l.length) : distK l (k + 1) = addL (distK l k) l[k]! := foldl_take_succ _ _ _ _ h
theorem distK_all (l : List Int) : distK l l.length = distL l := by unfold distK; rw [List.take_length]
theorem addL_len (acc : List Int) (x : Int) : (addL acc x).length ≤ acc.length + 1 := by unfold addL; split <;> simp
theorem distK_len (l : List Int) : ∀ k, k ≤ l.length → (distK l k).length ≤ k
  | 0, _ => by simp [distK, distL]
  | k + 1, h => by
    rw [distK_succ h]
    have := addL_len (distK l k) l[k]!
    have := distK_len l k (by omega)
    omega
theorem distL_len (l : List Int) : (distL l).length ≤ l.length := by rw [← distK_all]; exact distK_len l _ (Nat.le_refl _)
theorem distK_mem (l : List Int) : ∀ k, k ≤ l.length → ∀ x ∈ distK l k, x ∈ l
  | 0, _ => fun x hx => by simp [distK, distL] at hx
  | k + 1, h => fun x hx => by
    rw [distK_succ h] at hx
    unfold addL at hx
    split at hx
    · exact distK_mem l k (by omega) x hx
    · rcases List.mem_append.1 hx with hx | hx
      · exact distK_mem l k (by omega) x hx
      · rw [List.mem_singleton.1 hx, getElem!_pos l k h]; exact List.getElem_mem h
theorem distL_sub (l : List Int) : ∀ x ∈ distL l, x ∈ l := by rw [← distK_all]; exact distK_mem l _ (Nat.le_refl _)
theorem foldAdd_mem (l : List Int) : ∀ (acc : List Int) (x : Int), x ∈ l.foldl addL acc ↔ x ∈ acc ∨ x ∈ l := by
  induction l with
  | nil => intro acc x; simp
  | cons y l ih =>
    intro acc x
    rw [List.foldl_cons, ih]
    unfold addL
    split
    · rename_i h
      constructor
      · rintro (h1 | h1)
        · exact .inl h1
        · exact .inr (List.mem_cons_of_mem _ h1)
      · rintro (h1 | h1)
        · exact .inl h1
        · rcases List.mem_cons.1 h1 with rfl | h1
          · exact .inl h
          · exact .inr h1
    · simp [or_assoc]
theorem distL_mem (l : List Int) (x : Int) : x ∈ distL l ↔ x ∈ l := by unfold distL; rw [foldAdd_mem]; simp
theorem foldAdd_nodup (l : List Int) : ∀ acc : List Int, acc.Nodup → (l.foldl addL acc).Nodup := by
  induction l with
  | nil => intro acc h; exact h
  | cons y l ih =>
    intro acc h
    rw [List.foldl_cons]
    refine ih _ ?_
    unfold addL
    split
    · exact h
    · rename_i hn
      rw [List.nodup_append]
      exact ⟨h, by simp, fun a ha b hb e => by rw [List.mem_singleton.1 hb] at e; exact hn (e ▸ ha)⟩
theorem distL_nodup (l : List Int) : (distL l).Nodup := foldAdd_nodup l [] List.nodup_nil
def seenF (acc : List Int) : Int → Option Value := fun z => if z ∈ acc then some (.bool true) else none
theorem seenF_nil : seenF [] = fun _ => none := by funext z; simp [seenF]
theorem seenF_add {acc : List Int} {x : Int} : setV (seenF acc) x (.bool true) = seenF (acc ++ [x]) := by
  funext z
  by_cases h : z = x
  · subst h; rw [setV_same]; simp [seenF]
  · rw [setV_ne h]; simp [seenF, h]
theorem Try.zero4 (w : World) : (zeroValue 4).run Try.prog w = .ok (.bool false) w := by kernel_rfl
theorem Mp.Own.keptB {α : Type} {e : TypeId} {k : Nat} {enc : α → List Value} {w w' : World} {base B : Nat} {v : Value} {xs : List α} (h : Own e k enc w base v xs) (hg : w.grownBy w' (some B)) (hB : B < base) : Own e k enc w' base v xs := by
  obtain ⟨h1, h2⟩ := h
  refine ⟨h1, ?_⟩
  rcases h2 with h2 | ⟨g, cap, cur, hv, hgb, hh, r⟩
  · exact .inl h2
  · exact .inr ⟨g, cap, cur, hv, hgb, by rw [hg.block g (Array.getElem?_eq_some_iff.1 hh).1 (by intro e; injection e with e; omega)]; exact hh, r⟩
theorem below_grown {w w0 w' : World} {n B : Nat} (hb : Below n w0 w) (hg : w.grownBy w' (some B)) (hn : n ≤ B) (hs : n ≤ w.heap.size) : Below n w0 w' :=
  hb.trans ⟨hg.os, hg.tape, hg.output, hg.size, fun k hk => hg.block k (by omega) (by intro e; injection e with e; omega)⟩

set_option maxHeartbeats 2000000 in
theorem place_distinct (v : Value) (l : List Int) (w : World) (hl : l.length ≤ 1000) (hwf : wfs l) (hv : SlI w v l) :
    Calls Try.prog 32 #[v] w (fun e w' => ∃ u, e = .returned u ∧ OwnI 3 w' w.heap.size u (distL l) ∧ Below w.heap.size w w') := by
  obtain ⟨A, c, rfl, hc, hR⟩ := hv
  have HR := Lib.hid hR
  have HWF := Lib.hid hwf
  clear hR hwf hc
  have hmm := @run_makeMap Try.prog
  have hM0 : MapV Try.prog 3 (w.alloc (.map #[] 0)) w.heap.size 0 (fun _ => none) := MapV.made w
  go_enter Try.func32, Try.ntmps32
  go_wp2
  go_loopw [2, 9] (fun u i wr => ∃ k : Nat, k ≤ l.length ∧ i = .int .i64 k ∧ OwnI 3 wr (w.heap.size + 1) u (distK l k) ∧ MapV Try.prog 3 wr w.heap.size k (seenF (distK l k)) ∧ Below w.heap.size w wr ∧ w.heap.size + 1 ≤ wr.heap.size) (fun _ i _ => l.length - (intOf i).toNat)
  case atStart => exact ⟨0, Nat.zero_le _, rfl, Own.nil _ _, by rw [show distK l 0 = [] from rfl, seenF_nil]; exact hM0, bw1 _ _, by simp⟩
  case round =>
    obtain ⟨k, hk, rfl, hown, hM, hbw, hsz⟩ := hrel
    clear hM0
    by_cases hlt : k < l.length
    · obtain ⟨b, off, rfl, hb, g1⟩ := RdI.get HR.out hbw hlt
      obtain ⟨y, hy⟩ : ∃ y, l[k]! = y := ⟨_, rfl⟩
      have hwy : (Lit.int .i64 y).wf = true := HWF.out y (by rw [← hy, getElem!_pos l k hlt]; exact List.getElem_mem hlt)
      have hsu := distK_succ hlt
      rw [hy] at g1 hsu
      have hlen := distK_len l k hk
      have hd : decide (k < l.length) = true := decide_eq_true hlt
      have HSU := Lib.hid hsu
      obtain ⟨acc, hacc⟩ : ∃ acc, distK l k = acc := ⟨_, rfl⟩
      rw [hacc] at hown hM HSU hlen
      clear hy hsu hacc hmm
      by_cases hm : y ∈ acc
      · have hs1 : (seenF acc y).getD (.bool false) = .bool true := by simp [seenF, hm]
        have HE : Hid (distK l (k + 1) = acc) := Lib.hid (by rw [HSU.out]; unfold addL; rw [if_pos hm])
        have HS1 := Lib.hid hs1
        clear hm hs1
        go_wp2_with (at_lookup; refine MapV.look hM rfl _ _ rfl Try.underlying68 Try.underlying3 (Try.zero4 _) rfl y rfl hwy HS1.out ?_)
        go_roundw
        case rel => exact ⟨k + 1, by omega, by go_num, by rw [HE.out]; exact hown, by rw [HE.out]; exact hM.mono (by omega), hbw, hsz⟩
        case measure => simp [intOf]; omega
      · have hs1 : (seenF acc y).getD (.bool false) = .bool false := by simp [seenF, hm]
        have HE : Hid (distK l (k + 1) = acc ++ [y]) := Lib.hid (by rw [HSU.out]; unfold addL; rw [if_neg hm])
        have HS1 := Lib.hid hs1
        clear hm hs1
        go_wp2_with first
          | (at_lookup; refine MapV.look hM rfl _ _ rfl Try.underlying68 Try.underlying3 (Try.zero4 _) rfl y rfl hwy HS1.out ?_)
          | (at_mapUpdate; refine MapV.store hM rfl _ _ _ rfl Try.underlying68 Try.underlying3 rfl y (.bool true) rfl rfl hwy (M := k + 1) (.inr (Nat.le_refl _)) (by unfold maxLen; omega) ?_; intro w1 hM1 hg1; rw [seenF_add] at hM1; have hown1 := hown.keptB hg1 (by omega); have hbw1 := below_grown hbw hg1 (Nat.le_refl _) (by omega); have hsz1 := Nat.le_trans hsz hg1.size)
          | (at_builtin; refine Try.appI hown1 y rfl _ _ rfl rfl rfl (by omega) hsz1 ?_; intro v2 w2 hown2 hb2; have hM2 := hM1.belowN hb2 (by omega); have hbw2 := hbw1.trans (hb2.mono (by omega)); have hsz2 := Nat.le_trans hsz1 hb2.size)
        go_roundw
        case rel => exact ⟨k + 1, by omega, by go_num, by rw [HE.out]; exact hown2, by rw [HE.out]; exact hM2, hbw2, hsz2⟩
        case measure => simp [intOf]; omega
    · obtain rfl : k = l.length := by omega
      have hd : decide (l.length < l.length) = false := decide_eq_false (by omega)
      rw [distK_all] at hown
      go_wp2
      go_ret
      exact ⟨_, rfl, hown.mono (by omega), hbw⟩

set_option maxHeartbeats 2000000 in
theorem ref_features49 (v : Value) (l : List Int) (w : World) (hl : l.length ≤ 1000) (hv : SlI w v l) :
    Calls Try.prog 33 #[v] w (fun e w' => ∃ u, e = .returned u ∧ OwnI 3 w' w.heap.size u (distL l) ∧ Below w.heap.size w w') := by
  obtain ⟨A, c, rfl, hc, hR⟩ := hv
  have HR := Lib.hid hR
  clear hR hc
  go_enter Try.func33, Try.ntmps33
  go_wp2
  go_loopw [3, 4] (fun u i wr => ∃ k : Nat, k ≤ l.length ∧ i = .int .i64 k ∧ OwnI 3 wr w.heap.size u (distK l k) ∧ Below w.heap.size w wr) (fun _ i _ => l.length - (intOf i).toNat)
  case atStart => exact ⟨0, Nat.zero_le _, rfl, Own.nil _ _, Below.refl _ _⟩
  case round =>
    obtain ⟨k, hk, rfl, hown, hbw⟩ := hrel
    by_cases hlt : k < l.length
    · obtain ⟨b, off, rfl, hb, HC⟩ := RdI.cells HR.out (show 0 < l.length by omega)
      obtain ⟨y, hy⟩ : ∃ y, l[k]! = y := ⟨_, rfl⟩
      have hsu := distK_succ hlt
      have g1 := HC wr hbw k hlt
      have HCC := Lib.hid (fun (W : World) (hW : Below w.heap.size w W) => HC W hW k hlt)
      rw [hy] at g1 hsu HCC
      have hlen := distK_len l k hk
      have hd : decide (k < l.length) = true := decide_eq_true hlt
      have HSU := Lib.hid hsu
      obtain ⟨acc, hacc⟩ : ∃ acc, distK l k = acc := ⟨_, rfl⟩
      rw [hacc] at hown HSU hlen
      clear hy hsu hacc HC
      obtain ⟨p, hp⟩ : ∃ p, decide (y ∈ acc) = p := ⟨_, rfl⟩
      go_wp2_with fail
      clear g1
      refine (k_rhas hown.sl (by omega) hp).mono ?_
      rintro e w1 ⟨rfl, hb1⟩
      have hbw1 := hbw.trans (hb1.mono hbw.size)
      have hown1 := hown.below hb1
      have g2 := HCC.out w1 hbw1
      have hsz := hbw1.size
      cases p
      · have HE : Hid (distK l (k + 1) = acc ++ [y]) := Lib.hid (by rw [HSU.out]; unfold addL; rw [if_neg (of_decide_eq_false hp)])
        clear hp
        go_wp2_with (at_builtin; refine Try.appI hown1 y rfl _ _ rfl rfl rfl (by omega) hsz ?_; intro v2 w2 hown2 hb2)
        go_roundw
        case rel => exact ⟨k + 1, by omega, by go_num, by rw [HE.out]; exact hown2, hbw1.trans hb2⟩
        case measure => simp [intOf]; omega
      · have HE : Hid (distK l (k + 1) = acc) := Lib.hid (by rw [HSU.out]; unfold addL; rw [if_pos (of_decide_eq_true hp)])
        clear hp
        go_wp2
        go_roundw
        case rel => exact ⟨k + 1, by omega, by go_num, by rw [HE.out]; exact hown1, hbw1⟩
        case measure => simp [intOf]; omega
    · obtain rfl : k = l.length := by omega
      have hd : decide (l.length < l.length) = false := decide_eq_false (by omega)
      rw [distK_all] at hown
      go_wp2
      go_ret
      exact ⟨_, rfl, hown, hbw⟩
end Go.Proofs
/- choices, choice, placed: what is chosen for a feature. -/
set_option linter.unusedVariables false
set_option linter.unusedSimpArgs false
namespace Go.Proofs
open Go.RowKit Go.Proofs.Mp Go.Proofs.Uf

def chO (l : List Cand) (f : Int) (acc : Option Int) (i : Int) : Option Int :=
  if inB l.length i = true ∧ l[i.toNat]!.f = f then (match acc with | none => some i | some j => if i < j then some i else some j) else acc
def choiceO (l : List Cand) (ch : List Int) (f : Int) : Option Int := ch.foldl (chO l f) none
def choiceK (l : List Cand) (ch : List Int) (k : Nat) (f : Int) : Option Int := choiceO l (ch.take k) f
theorem choiceK_succ (l : List Cand) {ch : List Int} {k : Nat} (h : k < ch.length) (f : Int) : choiceK l ch (k + 1) f = chO l f (choiceK l ch k f) ch[k]! := foldl_take_succ _ _ _ _ h
theorem choiceK_all (l : List Cand) (ch : List Int) : choiceK l ch ch.length = choiceO l ch := by funext f; unfold choiceK; rw [List.take_length]
theorem choiceO_spec (l : List Cand) (f : Int) : ∀ (ch : List Int) (acc : Option Int), (∀ j, acc = some j → inB l.length j = true ∧ l[j.toNat]!.f = f) → ∀ j, ch.foldl (chO l f) acc = some j → inB l.length j = true ∧ l[j.toNat]!.f = f
  | [], acc, h, j, hj => h j hj
  | i :: ch, acc, h, j, hj => by
    rw [List.foldl_cons] at hj
    refine choiceO_spec l f ch _ ?_ j hj
    intro j' hj'
    unfold chO at hj'
    split at hj'
    · rename_i hc
      split at hj'
      · injection hj' with hj'; subst hj'; exact hc
      · split at hj'
        · injection hj' with hj'; subst hj'; exact hc
        · injection hj' with hj'; subst hj'; exact h _ rfl
    · exact h _ hj'
theorem choiceO_in {l : List Cand} {ch : List Int} {f j : Int} (h : choiceO l ch f = some j) : inB l.length j = true ∧ l[j.toNat]!.f = f := choiceO_spec l f ch none (fun j hj => by cases hj) j h
theorem choiceK_in {l : List Cand} {ch : List Int} {k : Nat} {f j : Int} (h : choiceK l ch k f = some j) : inB l.length j = true ∧ l[j.toNat]!.f = f := choiceO_in h
/-- the map of the choices -/
def chV (g : Int → Option Int) : Int → Option Value := fun f => (g f).map (Value.int .i64)
theorem chV_set {g h : Int → Option Int} {f i : Int} (h1 : h f = some i) (h2 : ∀ z, z ≠ f → h z = g z) : setV (chV g) f (.int .i64 i) = chV h := by
  funext z
  by_cases e : z = f
  · subst e; rw [setV_same]; unfold chV; rw [h1]; rfl
  · rw [setV_ne e]; unfold chV; rw [h2 z e]
theorem chV_eq {g h : Int → Option Int} (e : ∀ z, h z = g z) : chV g = chV h := by funext z; unfold chV; rw [e]
theorem chO_out {l : List Cand} {f i : Int} {acc : Option Int} (h : inB l.length i = false) : chO l f acc i = acc := by unfold chO; rw [if_neg (fun hc => by rw [h] at hc; cases hc.1)]
theorem chO_ne {l : List Cand} {f i : Int} {acc : Option Int} (h : l[i.toNat]!.f ≠ f) : chO l f acc i = acc := by unfold chO; rw [if_neg (fun hc => h hc.2)]
theorem chO_none {l : List Cand} {f i : Int} (h : inB l.length i = true) (hf : l[i.toNat]!.f = f) : chO l f none i = some i := by unfold chO; rw [if_pos ⟨h, hf⟩]
theorem chO_some {l : List Cand} {f i j : Int} (h : inB l.length i = true) (hf : l[i.toNat]!.f = f) : chO l f (some j) i = some (if i < j then i else j) := by
  unfold chO
  rw [if_pos ⟨h, hf⟩]
  show (if i < j then some i else some j) = _
  split <;> rfl

set_option maxHeartbeats 4000000 in
theorem place_choices (u v : Value) (l : List Cand) (ch : List Int) (w : World) (hl : l.length ≤ 1000) (hc : ch.length ≤ 1000) (hwf : wfs (feats l)) (hu : SlC w u l) (hv : SlI w v ch) :
    Calls Try.prog 31 #[u, v] w (fun e w' => ∃ B, e = .returned (.map (some B)) ∧ MapV Try.prog 3 w' B ch.length (chV (choiceO l ch)) ∧ w.heap.size ≤ B ∧ Below w.heap.size w w') := by
  obtain ⟨A, ca, rfl, hca, hR⟩ := hu
  obtain ⟨B, cb, rfl, hcb, hRc⟩ := hv
  have HR := Lib.hid hR
  have HRC := Lib.hid hRc
  have HWF := Lib.hid hwf
  have hM0 : MapV Try.prog 3 (w.alloc (.map #[] 0)) w.heap.size 0 (fun _ => none) := MapV.made w
  have hmm := @run_makeMap Try.prog
  clear hR hRc hwf
  go_enter Try.func31, Try.ntmps31
  go_wp2
  go_loopw [13] (fun i wr => ∃ k : Nat, k ≤ ch.length ∧ i = .int .i64 k ∧ MapV Try.prog 3 wr w.heap.size k (chV (choiceK l ch k)) ∧ Below w.heap.size w wr) (fun i _ => ch.length - (intOf i).toNat)
  case atStart => exact ⟨0, Nat.zero_le _, rfl, by rw [show chV (choiceK l ch 0) = fun _ => none from by funext z; rfl]; exact hM0, bw1 _ _⟩
  case round =>
    obtain ⟨k, hk, rfl, hM, hbw⟩ := hrel
    clear hM0 hmm
    by_cases hlt : k < ch.length
    · obtain ⟨b, off, rfl, hb, g1⟩ := RdI.get HRC.out hbw hlt
      obtain ⟨y, hy⟩ : ∃ y, ch[k]! = y := ⟨_, rfl⟩
      have hsu := fun f => choiceK_succ l hlt f
      rw [hy] at g1 hsu
      have HSU := Lib.hid hsu
      have hd : decide (k < ch.length) = true := decide_eq_true hlt
      obtain ⟨g, hg⟩ : ∃ g, choiceK l ch k = g := ⟨_, rfl⟩
      have HGI := Lib.hid (fun (f j : Int) (h : choiceK l ch k f = some j) => choiceK_in h)
      rw [hg] at hM HSU HGI
      clear hy hsu hg
      by_cases h0 : inB l.length y = true
      · obtain ⟨m, rfl, hm⟩ := inB_nat h0
        have H0 := Lib.hid h0
        have d0 : decide ((m : Int) < 0) = false := decide_eq_false (by omega)
        have d1 : decide ((l.length : Int) ≤ (m : Int)) = false := decide_eq_false (by omega)
        have d2 : decide (l.length ≤ m) = false := decide_eq_false (by omega)
        obtain ⟨bl, offl, rfl, hbl, HCL⟩ := Rd.rangeCs HR.out (show 0 < l.length by omega)
        have g2 : wr.cell? ⟨bl, offl + m * 8, none⟩ = some (.int .i64 l[m]!.f) := by simpa using HCL wr hbw m hm 0 _ rfl
        have hwx : (Lit.int .i64 l[m]!.f).wf = true := HWF.out _ (feats_get hm)
        obtain ⟨f, hf⟩ : ∃ f, l[m]!.f = f := ⟨_, rfl⟩
        have HF : Hid (l[(m : Int).toNat]!.f = f) := Lib.hid (by simpa using hf)
        rw [hf] at g2 hwx
        clear h0 hf HCL
        rcases hgf : g f with _ | j
        · have hv0 : ((chV g) f).getD (.int .i64 0) = .int .i64 0 := by unfold chV; rw [hgf]; rfl
          have hb0 : ((chV g) f).isSome = false := by unfold chV; rw [hgf]; rfl
          have HV := Lib.hid hv0
          have HB := Lib.hid hb0
          have HS : Hid (setV (chV g) f (.int .i64 (m : Int)) = chV (choiceK l ch (k + 1))) := Lib.hid (chV_set (by rw [HSU.out, hgf]; exact chO_none H0.out HF.out) (fun z hz => by rw [HSU.out]; exact chO_ne (by rw [HF.out]; exact fun e => hz e.symm)))
          clear hv0 hb0 hgf
          go_wp2_with first
            | (at_lookup; refine MapV.look_ok hM rfl _ _ rfl Try.underlying51 Try.underlying3 (Try.zero3 _) rfl f rfl hwx HV.out HB.out ?_)
            | (at_mapUpdate; refine MapV.store hM rfl _ _ _ rfl Try.underlying51 Try.underlying3 rfl f (.int .i64 (m : Int)) rfl rfl hwx (M := k + 1) (.inr (Nat.le_refl _)) (by unfold maxLen; omega) ?_; intro w1 hM1 hg1)
          go_roundw
          case rel => exact ⟨k + 1, by omega, by go_num, by rw [← HS.out]; exact hM1, below_grown hbw hg1 (Nat.le_refl _) hbw.size⟩
          case measure => simp [intOf]; omega
        · have hv0 : ((chV g) f).getD (.int .i64 0) = .int .i64 j := by unfold chV; rw [hgf]; rfl
          have hb0 : ((chV g) f).isSome = true := by unfold chV; rw [hgf]; rfl
          have HV := Lib.hid hv0
          have HB := Lib.hid hb0
          by_cases hlj : (m : Int) < j
          · have dj : decide ((m : Int) < j) = true := decide_eq_true hlj
            have HS : Hid (setV (chV g) f (.int .i64 (m : Int)) = chV (choiceK l ch (k + 1))) := Lib.hid (chV_set (by rw [HSU.out, hgf, chO_some H0.out HF.out, if_pos hlj]) (fun z hz => by rw [HSU.out]; exact chO_ne (by rw [HF.out]; exact fun e => hz e.symm)))
            clear hv0 hb0 hgf hlj
            go_wp2_with first
              | (at_lookup; refine MapV.look_ok hM rfl _ _ rfl Try.underlying51 Try.underlying3 (Try.zero3 _) rfl f rfl hwx HV.out HB.out ?_)
              | (at_mapUpdate; refine MapV.store hM rfl _ _ _ rfl Try.underlying51 Try.underlying3 rfl f (.int .i64 (m : Int)) rfl rfl hwx (M := k + 1) (.inr (Nat.le_refl _)) (by unfold maxLen; omega) ?_; intro w1 hM1 hg1)
            go_roundw
            case rel => exact ⟨k + 1, by omega, by go_num, by rw [← HS.out]; exact hM1, below_grown hbw hg1 (Nat.le_refl _) hbw.size⟩
            case measure => simp [intOf]; omega
          · have dj : decide ((m : Int) < j) = false := decide_eq_false hlj
            have HS : Hid (chV g = chV (choiceK l ch (k + 1))) := Lib.hid (chV_eq (fun z => by
              rw [HSU.out]
              by_cases hz : z = f
              · subst hz; rw [hgf, chO_some H0.out HF.out, if_neg hlj]
              · exact chO_ne (by rw [HF.out]; exact fun e => hz e.symm)))
            clear hv0 hb0 hgf hlj
            go_wp2_with (at_lookup; refine MapV.look_ok hM rfl _ _ rfl Try.underlying51 Try.underlying3 (Try.zero3 _) rfl f rfl hwx HV.out HB.out ?_)
            go_roundw
            case rel => exact ⟨k + 1, by omega, by go_num, by rw [← HS.out]; exact hM.mono (by omega), hbw⟩
            case measure => simp [intOf]; omega
      · have h0' : inB l.length y = false := by simpa using h0
        have HS : Hid (chV g = chV (choiceK l ch (k + 1))) := Lib.hid (chV_eq (fun z => by rw [HSU.out]; exact chO_out h0'))
        rcases inB_no.1 h0' with hneg | hbig
        · have d0 : decide (y < 0) = true := decide_eq_true hneg
          clear h0 h0' hneg
          go_wp2
          go_roundw
          case rel => exact ⟨k + 1, by omega, by go_num, by rw [← HS.out]; exact hM.mono (by omega), hbw⟩
          case measure => simp [intOf]; omega
        · have d0 : decide (y < 0) = false := decide_eq_false (by omega)
          have d1 : decide ((l.length : Int) ≤ y) = true := decide_eq_true hbig
          clear h0 h0' hbig
          go_wp2
          go_roundw
          case rel => exact ⟨k + 1, by omega, by go_num, by rw [← HS.out]; exact hM.mono (by omega), hbw⟩
          case measure => simp [intOf]; omega
    · obtain rfl : k = ch.length := by omega
      have hd : decide (ch.length < ch.length) = false := decide_eq_false (by omega)
      rw [choiceK_all] at hM
      go_wp2
      go_ret
      exact ⟨_, rfl, hM, Nat.le_refl _, hbw⟩
end Go.Proofs
/- The reference's choice and placed. -/
set_option linter.unusedVariables false
set_option linter.unusedSimpArgs false
namespace Go.Proofs
open Go.RowKit Go.Proofs.Mp Go.Proofs.Uf

def optI (o : Option Int) : Int := o.getD (-1)

set_option maxHeartbeats 4000000 in
theorem ref_choice (u v : Value) (l : List Cand) (ch : List Int) (f : Int) (w : World) (hl : l.length ≤ 1000) (hc : ch.length ≤ 1000) (hu : SlC w u l) (hv : SlI w v ch) :
    Calls Try.prog 35 #[u, v, .int .i64 f] w (RetV w (.int .i64 (optI (choiceO l ch f)))) := by
  obtain ⟨A, ca, rfl, hca, hR⟩ := hu
  obtain ⟨B, cb, rfl, hcb, hRc⟩ := hv
  have HR := Lib.hid hR
  have HRC := Lib.hid hRc
  clear hR hRc
  go_enter Try.func35, Try.ntmps35
  go_wp2
  go_loopw [7, 8] (fun b i wr => ∃ k : Nat, k ≤ ch.length ∧ i = .int .i64 k ∧ b = .int .i64 (optI (choiceK l ch k f)) ∧ Below w.heap.size w wr) (fun _ i _ => ch.length - (intOf i).toNat)
  case atStart => exact ⟨0, Nat.zero_le _, rfl, rfl, Below.refl _ _⟩
  case round =>
    obtain ⟨k, hk, rfl, rfl, hbw⟩ := hrel
    by_cases hlt : k < ch.length
    · obtain ⟨b, off, rfl, hb, HC⟩ := RdI.cells HRC.out (show 0 < ch.length by omega)
      have HCC := Lib.hid (fun (W : World) (hW : Below w.heap.size w W) => HC W hW k hlt)
      have g1 := HC wr hbw k hlt
      obtain ⟨y, hy⟩ : ∃ y, ch[k]! = y := ⟨_, rfl⟩
      have hsu := choiceK_succ l hlt f
      rw [hy] at g1 hsu HCC
      have HSU := Lib.hid hsu
      have hd : decide (k < ch.length) = true := decide_eq_true hlt
      have HGI := Lib.hid (fun (j : Int) (h : choiceK l ch k f = some j) => choiceK_in h)
      obtain ⟨o, ho⟩ : ∃ o, choiceK l ch k f = o := ⟨_, rfl⟩
      rw [ho] at HSU HGI ⊢
      clear hy hsu ho HC
      obtain ⟨ib, hib⟩ : ∃ ib, inB l.length y = ib := ⟨_, rfl⟩
      have HIB := Lib.hid hib
      go_wp2_with fail
      clear g1
      refine (c_index A l.length ca y wr hib).mono ?_
      rintro e w1 ⟨rfl, hb1⟩
      clear hib
      have hbw1 := hbw.trans (hb1.mono hbw.size)
      have g2 := HCC.out w1 hbw1
      cases ib
      · have HE : Hid (choiceK l ch (k + 1) f = o) := Lib.hid (by rw [HSU.out]; exact chO_out HIB.out)
        go_wp2
        go_roundw
        case rel => exact ⟨k + 1, by omega, by go_num, by rw [HE.out], hbw1⟩
        case measure => simp [intOf]; omega
      · obtain ⟨m, rfl, hm⟩ := inB_nat HIB.out
        obtain ⟨bl, offl, rfl, hbl, HCL⟩ := Rd.rangeCs HR.out (show 0 < l.length by omega)
        have g3 : w1.cell? ⟨bl, offl + m * 8, none⟩ = some (.int .i64 l[m]!.f) := by simpa using HCL w1 hbw1 m hm 0 _ rfl
        obtain ⟨z, hz⟩ : ∃ z, l[m]!.f = z := ⟨_, rfl⟩
        have HF : Hid (l[(m : Int).toNat]!.f = z) := Lib.hid (by simpa using hz)
        rw [hz] at g3
        clear hz HCL
        by_cases hzf : z = f
        · have dz : (z == f) = true := by simp [hzf]
          have HZ := Lib.hid hzf
          clear hzf
          rcases o with _ | j
          · have HE : Hid (choiceK l ch (k + 1) f = some (m : Int)) := Lib.hid (by rw [HSU.out]; exact chO_none HIB.out (HF.out.trans HZ.out))
            simp only [optI, Option.getD_none]
            go_wp2
            go_roundw
            case rel => exact ⟨k + 1, by omega, by go_num, by rw [HE.out]; rfl, hbw1⟩
            case measure => simp [intOf]; omega
          · have hj := (inB_iff.1 (HGI.out j rfl).1).1
            have dj : decide (j < 0) = false := decide_eq_false (by omega)
            simp only [optI, Option.getD_some]
            by_cases hmj : (m : Int) < j
            · have dm : decide ((m : Int) < j) = true := decide_eq_true hmj
              have HE : Hid (choiceK l ch (k + 1) f = some (m : Int)) := Lib.hid (by rw [HSU.out, chO_some HIB.out (HF.out.trans HZ.out), if_pos hmj])
              clear hmj
              go_wp2
              go_roundw
              case rel => exact ⟨k + 1, by omega, by go_num, by rw [HE.out]; rfl, hbw1⟩
              case measure => simp [intOf]; omega
            · have dm : decide ((m : Int) < j) = false := decide_eq_false hmj
              have HE : Hid (choiceK l ch (k + 1) f = some j) := Lib.hid (by rw [HSU.out, chO_some HIB.out (HF.out.trans HZ.out), if_neg hmj])
              clear hmj
              go_wp2
              go_roundw
              case rel => exact ⟨k + 1, by omega, by go_num, by rw [HE.out]; rfl, hbw1⟩
              case measure => simp [intOf]; omega
        · have dz : (z == f) = false := by simp [hzf]
          have HE : Hid (choiceK l ch (k + 1) f = o) := Lib.hid (by rw [HSU.out]; exact chO_ne (by rw [HF.out]; exact hzf))
          clear hzf
          go_wp2
          go_roundw
          case rel => exact ⟨k + 1, by omega, by go_num, by rw [HE.out], hbw1⟩
          case measure => simp [intOf]; omega
    · obtain rfl : k = ch.length := by omega
      have hd : decide (ch.length < ch.length) = false := decide_eq_false (by omega)
      rw [choiceK_all]
      go_wp2
      go_ret
      exact ⟨rfl, hbw⟩

/-- how many features of a list are placed -/
def placedN (l : List Cand) (fs ch : List Int) : Nat := (fs.filter fun f => (choiceO l ch f).isSome).length
theorem placedN_succ (l : List Cand) {fs : List Int} (ch : List Int) {k : Nat} (h : k < fs.length) : placedN l (fs.take (k + 1)) ch = placedN l (fs.take k) ch + if (choiceO l ch fs[k]!).isSome = true then 1 else 0 := by
  unfold placedN
  rw [List.take_succ_eq_append_getElem h, List.filter_append, List.length_append, getElem!_pos fs k h]
  congr 1
  rw [List.filter_cons]
  split <;> simp
theorem placedN_le (l : List Cand) (fs ch : List Int) : placedN l fs ch ≤ fs.length := List.length_filter_le _ _
theorem optI_nonneg {l : List Cand} {ch : List Int} {f : Int} : decide (0 ≤ optI (choiceO l ch f)) = (choiceO l ch f).isSome := by
  rcases h : choiceO l ch f with _ | j
  · rfl
  · have := (inB_iff.1 (choiceO_in h).1).1
    show decide (0 ≤ j) = true
    simpa using this

set_option maxHeartbeats 4000000 in
theorem ref_placed (u v x : Value) (l : List Cand) (fs ch : List Int) (w : World) (hl : l.length ≤ 1000) (hf : fs.length ≤ 1000) (hc : ch.length ≤ 1000) (hu : SlC w u l) (hv : SlI w v fs) (hx : SlI w x ch) :
    Calls Try.prog 34 #[u, v, x] w (RetV w (.int .i64 (placedN l fs ch : Nat))) := by
  have C := Lib.hid (fun (W : World) (hb : Below w.heap.size w W) (f : Int) => ref_choice u x l ch f W hl hc (hu.below hb) (hx.below hb))
  obtain ⟨B, cb, rfl, hcb, hRc⟩ := hv
  have HRC := Lib.hid hRc
  clear hRc hu hx
  go_enter Try.func34, Try.ntmps34
  go_wp2
  go_loopw [7, 8] (fun n i wr => ∃ k : Nat, k ≤ fs.length ∧ i = .int .i64 k ∧ n = .int .i64 (placedN l (fs.take k) ch : Nat) ∧ Below w.heap.size w wr) (fun _ i _ => fs.length - (intOf i).toNat)
  case atStart => exact ⟨0, Nat.zero_le _, rfl, rfl, Below.refl _ _⟩
  case round =>
    obtain ⟨k, hk, rfl, rfl, hbw⟩ := hrel
    by_cases hlt : k < fs.length
    · obtain ⟨b, off, rfl, hb, g1⟩ := RdI.get HRC.out hbw hlt
      obtain ⟨y, hy⟩ : ∃ y, fs[k]! = y := ⟨_, rfl⟩
      have hsu := placedN_succ l ch hlt
      have hle := placedN_le l (fs.take k) ch
      have hle2 : (fs.take k).length ≤ k := List.length_take_le _ _
      rw [hy] at g1 hsu
      have HSU := Lib.hid hsu
      have hd : decide (k < fs.length) = true := decide_eq_true hlt
      obtain ⟨m, hm⟩ : ∃ m, placedN l (fs.take k) ch = m := ⟨_, rfl⟩
      rw [hm] at HSU hle ⊢
      have hm6 : m ≤ 1000 := by omega
      clear hy hsu hm hle hle2
      go_wp2_with fail
      refine (C.out wr hbw y).mono ?_
      rintro e w1 ⟨rfl, hb1⟩
      have hbw1 := hbw.trans (hb1.mono hbw.size)
      have hnn := optI_nonneg (l := l) (ch := ch) (f := y)
      obtain ⟨p, hp⟩ : ∃ p, (choiceO l ch y).isSome = p := ⟨_, rfl⟩
      rw [hp] at hnn HSU
      obtain ⟨q, hq⟩ : ∃ q, optI (choiceO l ch y) = q := ⟨_, rfl⟩
      rw [hq] at hnn ⊢
      clear hp hq g1
      cases p
      · go_wp2
        go_roundw
        case rel => exact ⟨k + 1, by omega, by go_num, by rw [HSU.out]; rfl, hbw1⟩
        case measure => simp [intOf]; omega
      · go_wp2
        go_roundw
        case rel => exact ⟨k + 1, by omega, by go_num, by rw [HSU.out]; go_num, hbw1⟩
        case measure => simp [intOf]; omega
    · obtain rfl : k = fs.length := by omega
      have hd : decide (fs.length < fs.length) = false := decide_eq_false (by omega)
      rw [List.take_length]
      go_wp2
      go_ret
      exact ⟨rfl, hbw⟩
end Go.Proofs
