/- Boxes: words; the runs of a row and the formed boxes, the reference's. -/
import Derived.Test.YtnckglojbhlekaaQ5
set_option linter.unusedVariables false
set_option linter.unusedSimpArgs false
namespace Go.Proofs
open Go.RowKit Go.Proofs.Mp

theorem flat_set {α : Type} [Inhabited α] {k : Nat} {enc : α → List Value} (hk : ∀ x, (enc x).length = k) : ∀ (xs : List α) (j : Nat), j < xs.length → ∀ (i : Nat) (u : Value) (y : α), i < k → enc y = (enc xs[j]!).set i u → (xs.set j y).flatMap enc = (xs.flatMap enc).set (j * k + i) u := by
  intro xs
  induction xs with
  | nil => intro j hj; simp at hj
  | cons x xs ih =>
    intro j hj i u y hi hy
    rcases j with _ | j
    · simp only [List.getElem!_cons_zero] at hy
      rw [List.set_cons_zero, List.flatMap_cons, List.flatMap_cons, hy, Nat.zero_mul, Nat.zero_add, List.set_append_left _ _ (by rw [hk]; exact hi)]
    · simp only [List.getElem!_cons_succ] at hy
      rw [List.set_cons_succ, List.flatMap_cons, List.flatMap_cons, ih j (by simpa using hj) i u y hi hy, List.set_append_right _ _ (by rw [hk, Nat.succ_mul]; omega)]
      congr 2
      rw [hk, Nat.succ_mul]
      omega
/-- a row of the call's own: its cells, and a store into one of them -/
theorem Mp.Own.row {α : Type} [Inhabited α] {e : TypeId} {k : Nat} {enc : α → List Value} (hk : ∀ x, (enc x).length = k) {w : World} {base : Nat} {v : Value} {xs : List α} (h : Own e k enc w base v xs) (hn : 0 < xs.length) :
    ∃ g cap, v = .slice (some ⟨g, 0, none⟩) xs.length cap ∧ xs.length ≤ cap ∧ base ≤ g ∧ g < w.heap.size ∧ (∀ j, j < xs.length → ∀ i u, (enc xs[j]!)[i]? = some u → w.cell? ⟨g, j * k + i, none⟩ = some u) ∧ (∀ n, w.frozen? ⟨g, n, none⟩ = false) ∧
      ∀ j, j < xs.length → ∀ (i : Nat) (u : Value) (y : α), i < k → enc y = (enc xs[j]!).set i u → Own e k enc (w.setCell ⟨g, j * k + i, none⟩ u) base v (xs.set j y) := by
  have h0 := h
  rcases h.2 with ⟨_, h1⟩ | ⟨g, cap, cur, rfl, hb, hh, hnc, hm, hcs, htake⟩
  · rw [h1] at hn; exact absurd hn (by omega)
  · have hR := Own.rd hk h0
    obtain ⟨b, off, he, hlt, hc⟩ := Rd.get hR (Below.refl _ _) hn
    injection he with he
    injection he with e1 e2
    subst e1; subst e2
    refine ⟨g, cap, rfl, hnc, hb, hlt, fun j hj i u hu => by simpa using hc j hj i u hu, fun n => frozen_of_row w g n cur e hh, fun j hj i u y hi hy => ?_⟩
    have hs := (World.ownsRow.stored h0 (j * k + i) u).1
    unfold Own
    rw [flat_set hk xs j hj i u y hi hy, List.length_set]
    exact hs

/-- a box -/
structure Bx where
  x0 : Int
  y0 : Int
  x1 : Int
  y1 : Int
deriving Inhabited, DecidableEq
def encX (b : Bx) : List Value := [.int .i64 b.x0, .int .i64 b.y0, .int .i64 b.x1, .int .i64 b.y1]
def aggX (b : Bx) : Value := .agg #[.int .i64 b.x0, .int .i64 b.y0, .int .i64 b.x1, .int .i64 b.y1]
theorem encX_len (b : Bx) : (encX b).length = 4 := rfl
theorem encX_one (x : Bx) : ∀ u ∈ encX x, u.oneCell' = true := by
  intro u hu
  simp only [encX, List.mem_cons, List.not_mem_nil, or_false] at hu
  rcases hu with rfl | rfl | rfl | rfl <;> rfl
theorem Try.infoX : (Try.prog.info? 38).map (fun i => (i.zero, i.size, i.bytes)) = some (some (.agg #[.int .i64 0, .int .i64 0, .int .i64 0, .int .i64 0]), 4, 32) := by kernel_rfl
abbrev OwnX (w : World) (base : Nat) (v : Value) (xs : List Bx) : Prop := Own 38 4 encX w base v xs
theorem RdX.get {w wr : World} {A : Option Addr} {xs : List Bx} (h : Rd 4 encX w A xs) (hb : Below w.heap.size w wr) {j : Nat} (hj : j < xs.length) :
    ∃ b off, A = some ⟨b, off, none⟩ ∧ b < w.heap.size ∧ wr.cell? ⟨b, off + j * 4, none⟩ = some (.int .i64 xs[j]!.x0) ∧ wr.cell? ⟨b, off + j * 4 + 1, none⟩ = some (.int .i64 xs[j]!.y0) ∧ wr.cell? ⟨b, off + j * 4 + 2, none⟩ = some (.int .i64 xs[j]!.x1) ∧ wr.cell? ⟨b, off + j * 4 + 3, none⟩ = some (.int .i64 xs[j]!.y1) := by
  obtain ⟨b, off, rfl, hlt, hc⟩ := Rd.get h hb hj
  exact ⟨b, off, rfl, hlt, hc j hj 0 _ rfl, hc j hj 1 _ rfl, hc j hj 2 _ rfl, hc j hj 3 _ rfl⟩
theorem Try.appX {w : World} {base : Nat} {v : Value} {xs : List Bx} {ops : Array Oper} {rest : List Oper} {o : Oper} {a : Act} {Q : Exit → Act → World → Prop}
    (hown : OwnX w base v xs) (y : Bx) (hgd : o.guard = none) (s x : Operand)
    (ho : o.op = .call { callee := .builtin .append, args := #[s, x], argTypes := #[32, 32] }) (hs : a.eval s = v) (hx : a.eval x = .slice (some ⟨w.heap.size, 0, none⟩) 1 1)
    (hN : xs.length + 1 ≤ 1000000000) (hbase : base ≤ w.heap.size)
    (h : ∀ v' w', OwnX w' base v' (xs ++ [y]) → Below base w w' → wpList Try.prog ops Q rest (a.put o.dst v') w') :
    wpList Try.prog ops Q (o :: rest) a (w.alloc (.cells #[.int .i64 y.x0, .int .i64 y.y0, .int .i64 y.x1, .int .i64 y.y1] 38)) := by
  obtain ⟨i0, hi0, hz0, hz1, hz2⟩ := info_parts Try.infoX
  exact Own.append1 32 i0 (.agg #[.int .i64 0, .int .i64 0, .int .i64 0, .int .i64 0]) 32 Try.underlying32 hi0 hz0 hz1 hz2 rfl (by decide) (by decide) encX_len encX_one hgd s x ho hown hs y hx (by omega) hbase h

/-- a run of row y, as a box -/
def toBx (y : Int) (r : Int × Int) : Bx := ⟨r.1, y, r.2 - 1, y⟩
theorem mergeL_snoc (l : List (Int × Int)) (r : Int × Int) : mergeL (l ++ [r]) = mergeStep (mergeL l) r := by unfold mergeL; rw [List.foldl_append]; rfl
theorem merge_hi (ra rb : List Int) : ∀ k, ∀ q ∈ mergeL (diffTo ra rb k), q.2 ≤ k := by
  intro k
  induction k with
  | zero => intro q hq; exact absurd hq (by simp [diffTo, mergeL])
  | succ k ih =>
    intro q hq
    by_cases he : ra[k]! = rb[k]!
    · rw [diffTo_no he] at hq
      have := ih q hq
      omega
    · rw [diffTo_yes he, mergeL_snoc] at hq
      have hne : ¬ ((k : Int) + 1) ≤ (k : Int) := by omega
      rcases List.eq_nil_or_concat (mergeL (diffTo ra rb k)) with h0 | ⟨L, l, h0⟩
      · rw [h0, mergeStep_nil _ hne] at hq
        simp at hq
        rw [hq]; show (k : Int) + 1 ≤ _; omega
      · rw [List.concat_eq_append] at h0
        have hl := ih l (by rw [h0]; simp)
        rw [h0, mergeStep_snoc _ _ _ hne] at hq
        split at hq
        · rcases List.mem_append.1 hq with h | h
          · have := ih q (by rw [h0]; exact List.mem_append_left _ h)
            omega
          · simp at h
            rw [h]; show max l.2 ((k : Int) + 1) ≤ _; omega
        · rcases List.mem_append.1 hq with h | h
          · have := ih q (by rw [h0]; exact h)
            omega
          · simp at h
            rw [h]; show (k : Int) + 1 ≤ _; omega
theorem diff_sorted (ra rb : List Int) : ∀ k, SortedLo (diffTo ra rb k) ∧ ∀ q ∈ diffTo ra rb k, q.1 < k := by
  intro k
  induction k with
  | zero => exact ⟨List.Pairwise.nil, fun q hq => absurd hq (by simp [diffTo])⟩
  | succ k ih =>
    by_cases he : ra[k]! = rb[k]!
    · rw [diffTo_no he]
      exact ⟨ih.1, fun q hq => by have := ih.2 q hq; omega⟩
    · rw [diffTo_yes he]
      refine ⟨List.pairwise_append.2 ⟨ih.1, by simp, fun q hq r hr => ?_⟩, fun q hq => ?_⟩
      · simp at hr
        have := ih.2 q hq
        rw [hr]; show q.1 ≤ (k : Int); omega
      · rcases List.mem_append.1 hq with h | h
        · have := ih.2 q h; omega
        · simp at h
          rw [h]; show (k : Int) < _; omega
theorem norm_diff (ra rb : List Int) : mergeL (diffR ra rb) = normL (diffR ra rb) := merge_of_sorted (List.Perm.refl _) (diff_sorted ra rb _).1
/-- the runs of row y -/
def rowRuns (ra rb : List Int) (y : Int) (k : Nat) : List Bx := (mergeL (diffTo ra rb k)).map (toBx y)
theorem rowRuns_no {ra rb : List Int} {y : Int} {k : Nat} (h : ra[k]! = rb[k]!) : rowRuns ra rb y (k + 1) = rowRuns ra rb y k := by unfold rowRuns; rw [diffTo_no h]
theorem rowRuns_len (ra rb : List Int) (y : Int) (k : Nat) : (rowRuns ra rb y k).length ≤ k := by
  unfold rowRuns
  rw [List.length_map]
  exact Nat.le_trans (mergeL_len _) (diffTo_len ra rb k)
theorem rowRuns_first {ra rb : List Int} {y : Int} {k : Nat} (h : ra[k]! ≠ rb[k]!) (h0 : rowRuns ra rb y k = []) : rowRuns ra rb y (k + 1) = [⟨k, y, k, y⟩] := by
  unfold rowRuns at *
  have h1 : mergeL (diffTo ra rb k) = [] := List.map_eq_nil_iff.1 h0
  rw [diffTo_yes h, mergeL_snoc, h1, mergeStep_nil _ (by omega)]
  show [toBx y _] = _
  unfold toBx
  simp
theorem rowRuns_more {ra rb : List Int} {y : Int} {k : Nat} (h : ra[k]! ≠ rb[k]!) {L : List Bx} {b : Bx} (h0 : rowRuns ra rb y k = L ++ [b]) :
    b.x1 ≤ (k : Int) - 1 ∧ rowRuns ra rb y (k + 1) = if b.x1 = (k : Int) - 1 then L ++ [{ b with x1 := k }] else L ++ [b] ++ [⟨k, y, k, y⟩] := by
  unfold rowRuns at *
  obtain ⟨L', l', h1, h2, h3⟩ := List.map_eq_append_iff.1 h0
  obtain ⟨r, rs, h4, h5, h6⟩ := List.map_eq_cons_iff.1 h3
  have h7 : rs = [] := List.map_eq_nil_iff.1 h6
  subst h7 h4 h2 h5
  have hr := merge_hi ra rb k r (by rw [h1]; simp)
  refine ⟨by show r.2 - 1 ≤ _; omega, ?_⟩
  rw [diffTo_yes h, mergeL_snoc, h1, mergeStep_snoc _ _ _ (by omega)]
  by_cases hc : (k : Int) ≤ r.2
  · rw [if_pos hc, if_pos (by show r.2 - 1 = _; omega), List.map_append]
    show _ ++ [toBx y _] = _
    unfold toBx
    simp
    omega
  · rw [if_neg hc, if_neg (by show ¬ r.2 - 1 = _; omega), List.map_append, List.map_append]
    show _ ++ [toBx y _] = _
    unfold toBx
    simp

def bxMatch (b r : Bx) : Prop := b.x0 = r.x0 ∧ b.x1 = r.x1 ∧ b.y1 = r.y0 - 1
instance (b r : Bx) : Decidable (bxMatch b r) := by unfold bxMatch; exact inferInstance
/-- the boxes that have been formed, with one more run -/
def extL : List Bx → Bx → List Bx
  | [], r => [r]
  | b :: l, r => if bxMatch b r then { b with y1 := r.y1 } :: l else b :: extL l r
theorem extL_at : ∀ (l : List Bx) (r : Bx) (k : Nat), k < l.length → (∀ j, j < k → ¬ bxMatch l[j]! r) → bxMatch l[k]! r → extL l r = l.set k { l[k]! with y1 := r.y1 }
  | [], _, _, h, _, _ => by simp at h
  | b :: l, r, 0, _, _, hm => by
    have hm' : bxMatch b r := hm
    simp only [extL, List.getElem!_cons_zero, List.set_cons_zero]
    rw [if_pos hm']
  | b :: l, r, k + 1, hk, hn, hm => by
    have h0 : ¬ bxMatch b r := hn 0 (by omega)
    simp only [extL, List.getElem!_cons_succ, List.set_cons_succ]
    rw [if_neg h0, extL_at l r k (by simpa using hk) (fun j hj => by have := hn (j + 1) (by omega); simpa using this) (by simpa using hm)]
theorem extL_none : ∀ (l : List Bx) (r : Bx), (∀ j, j < l.length → ¬ bxMatch l[j]! r) → extL l r = l ++ [r]
  | [], _, _ => rfl
  | b :: l, r, hn => by
    have h0 : ¬ bxMatch b r := hn 0 (by simp)
    simp only [extL, List.cons_append]
    rw [if_neg h0, extL_none l r (fun j hj => by have := hn (j + 1) (by simpa using hj); simpa using this)]
theorem extL_len (r : Bx) : ∀ l : List Bx, (extL l r).length ≤ l.length + 1
  | [] => by simp [extL]
  | b :: l => by
    simp only [extL]
    split
    · simp
    · simp only [List.length_cons]; have := extL_len r l; omega
end Go.Proofs
