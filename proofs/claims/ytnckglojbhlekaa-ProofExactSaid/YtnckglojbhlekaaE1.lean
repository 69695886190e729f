/- The boxes contain exactly the cells that differ, each in one box only. Plain: no program in sight. -/
import Derived.Test.YtnckglojbhlekaaQ8
set_option linter.unusedVariables false
set_option linter.unusedSimpArgs false
namespace Go.Proofs
open Go.RowKit Go.Proofs.Mp

def coverB (b : Bx) (X Y : Int) : Bool := decide (b.x0 ≤ X) && decide (X ≤ b.x1) && decide (b.y0 ≤ Y) && decide (Y ≤ b.y1)
theorem coverB_iff {b : Bx} {X Y : Int} : coverB b X Y = true ↔ b.x0 ≤ X ∧ X ≤ b.x1 ∧ b.y0 ≤ Y ∧ Y ≤ b.y1 := by simp [coverB, and_assoc]
theorem coverB_no {b : Bx} {X Y : Int} : coverB b X Y = false ↔ ¬ (b.x0 ≤ X ∧ X ≤ b.x1 ∧ b.y0 ≤ Y ∧ Y ≤ b.y1) := by
  rw [← coverB_iff]; simp
def cnt (l : List Bx) (X Y : Int) : Nat := l.countP fun b => coverB b X Y
theorem cnt_nil (X Y : Int) : cnt [] X Y = 0 := rfl
theorem cnt_cons (b : Bx) (l : List Bx) (X Y : Int) : cnt (b :: l) X Y = cnt l X Y + if coverB b X Y = true then 1 else 0 := List.countP_cons
theorem cnt_app (l m : List Bx) (X Y : Int) : cnt (l ++ m) X Y = cnt l X Y + cnt m X Y := List.countP_append
theorem ite_eq_nat {p q : Prop} [Decidable p] [Decidable q] (h : p ↔ q) : (if p then 1 else 0 : Nat) = if q then 1 else 0 := by
  by_cases hp : p
  · rw [if_pos hp, if_pos (h.1 hp)]
  · rw [if_neg hp, if_neg (fun hq => hp (h.2 hq))]
theorem ite_sum {p q r : Prop} [Decidable p] [Decidable q] [Decidable r] (h : p ↔ q ∨ r) (hn : ¬ (q ∧ r)) : (if p then 1 else 0 : Nat) = (if q then 1 else 0) + if r then 1 else 0 := by
  by_cases hq : q
  · have hr : ¬ r := fun hr => hn ⟨hq, hr⟩
    rw [if_pos (h.2 (.inl hq)), if_pos hq, if_neg hr]
  · by_cases hr : r
    · rw [if_pos (h.2 (.inr hr)), if_neg hq, if_pos hr]
    · rw [if_neg hq, if_neg hr, if_neg (fun hp => (h.1 hp).elim hq hr)]
/-- one more run: its cells -/
theorem extL_cnt (r : Bx) (hr : r.y0 = r.y1) (X Y : Int) : ∀ l : List Bx, (∀ b ∈ l, b.y0 ≤ b.y1) → cnt (extL l r) X Y = cnt l X Y + if coverB r X Y = true then 1 else 0
  | [], _ => by rw [extL, cnt_cons]
  | b :: l, hl => by
    rw [extL]
    by_cases hm : bxMatch b r
    · rw [if_pos hm, cnt_cons, cnt_cons]
      obtain ⟨m1, m2, m3⟩ := hm
      have h0 := hl b (by simp)
      have : (if coverB { b with y1 := r.y1 } X Y = true then 1 else 0 : Nat) = (if coverB b X Y = true then 1 else 0) + if coverB r X Y = true then 1 else 0 := by
        refine ite_sum ?_ ?_
        · rw [coverB_iff, coverB_iff, coverB_iff]
          show (b.x0 ≤ X ∧ X ≤ b.x1 ∧ b.y0 ≤ Y ∧ Y ≤ r.y1) ↔ _
          omega
        · rw [coverB_iff, coverB_iff]
          omega
      rw [this]; omega
    · rw [if_neg hm, cnt_cons, cnt_cons, extL_cnt r hr X Y l (fun c hc => hl c (List.mem_cons_of_mem _ hc))]
      omega
theorem extL_mem {r : Bx} : ∀ {l : List Bx} {b : Bx}, b ∈ extL l r → b = r ∨ b ∈ l ∨ ∃ c ∈ l, bxMatch c r ∧ b = { c with y1 := r.y1 }
  | [], b, h => by rw [extL] at h; exact .inl (by simpa using h)
  | c :: l, b, h => by
    rw [extL] at h
    split at h
    · rename_i hm
      rcases List.mem_cons.1 h with h | h
      · exact .inr (.inr ⟨c, by simp, hm, h⟩)
      · exact .inr (.inl (List.mem_cons_of_mem _ h))
    · rcases List.mem_cons.1 h with h | h
      · exact .inr (.inl (by rw [h]; simp))
      · rcases extL_mem h with h | h | ⟨d, h1, h2⟩
        · exact .inl h
        · exact .inr (.inl (List.mem_cons_of_mem _ h))
        · exact .inr (.inr ⟨d, List.mem_cons_of_mem _ h1, h2⟩)
/-- a run of row y lies in the row's first k columns -/
theorem rowRuns_in (ra rb : List Int) (y : Int) : ∀ k, ∀ q ∈ rowRuns ra rb y k, 0 ≤ q.x0 ∧ q.x0 ≤ q.x1 ∧ q.x1 < k ∧ q.y0 = y ∧ q.y1 = y := by
  intro k
  induction k with
  | zero => intro q hq; exact absurd hq (by simp [rowRuns, diffTo, mergeL])
  | succ k ih =>
    intro q hq
    by_cases he : ra[k]! = rb[k]!
    · rw [rowRuns_no he] at hq
      have := ih q hq
      omega
    · rcases List.eq_nil_or_concat (rowRuns ra rb y k) with h0 | ⟨L, b, h0⟩
      · rw [rowRuns_first he h0] at hq
        simp at hq
        subst hq
        dsimp only
        omega
      · rw [List.concat_eq_append] at h0
        obtain ⟨h1, h2⟩ := rowRuns_more he h0
        have hb := ih b (by rw [h0]; simp)
        have hL : ∀ c ∈ L, _ := fun c hc => ih c (by rw [h0]; exact List.mem_append_left _ hc)
        rw [h2] at hq
        split at hq
        · rcases List.mem_append.1 hq with h | h
          · have := hL q h; omega
          · simp at h
            subst h
            dsimp only
            omega
        · rcases List.mem_append.1 hq with h | h
          · rcases List.mem_append.1 h with h | h
            · have := hL q h; omega
            · simp at h; subst h; omega
          · simp at h
            subst h
            dsimp only
            omega
/-- the cells of a row's runs are those that differ -/
theorem rowRuns_cnt (ra rb : List Int) (y : Int) (X Y : Int) : ∀ k, cnt (rowRuns ra rb y k) X Y = if Y = y ∧ 0 ≤ X ∧ X < k ∧ ra[X.toNat]! ≠ rb[X.toNat]! then 1 else 0 := by
  intro k
  induction k with
  | zero =>
    rw [if_neg (by omega)]
    rfl
  | succ k ih =>
    have key : ra[k]! ≠ rb[k]! → (if Y = y ∧ 0 ≤ X ∧ X < ((k + 1 : Nat) : Int) ∧ ra[X.toNat]! ≠ rb[X.toNat]! then 1 else 0 : Nat) = (if Y = y ∧ 0 ≤ X ∧ X < k ∧ ra[X.toNat]! ≠ rb[X.toNat]! then 1 else 0) + if Y = y ∧ X = k then 1 else 0 := fun he => by
      refine ite_sum ⟨?_, ?_⟩ (by omega)
      · rintro ⟨h1, h2, h3, h4⟩
        by_cases h5 : X < k
        · exact .inl ⟨h1, h2, h5, h4⟩
        · exact .inr ⟨h1, by omega⟩
      · rintro (⟨h1, h2, h3, h4⟩ | ⟨h1, h2⟩)
        · exact ⟨h1, h2, by omega, h4⟩
        · subst h2
          exact ⟨h1, by omega, by omega, by simpa using he⟩
    by_cases he : ra[k]! = rb[k]!
    · rw [rowRuns_no he, ih]
      refine ite_eq_nat ⟨fun ⟨h1, h2, h3, h4⟩ => ⟨h1, h2, by omega, h4⟩, fun ⟨h1, h2, h3, h4⟩ => ⟨h1, h2, ?_, h4⟩⟩
      by_cases h5 : X = k
      · subst h5
        exact absurd (by simpa using he) h4
      · omega
    · rw [key he]
      rcases List.eq_nil_or_concat (rowRuns ra rb y k) with h0 | ⟨L, b, h0⟩
      · rw [← ih, rowRuns_first he h0, h0, cnt_cons]
        congr 1
        refine ite_eq_nat ?_
        rw [coverB_iff]
        show ((k : Int) ≤ X ∧ X ≤ k ∧ y ≤ Y ∧ Y ≤ y) ↔ _
        omega
      · rw [List.concat_eq_append] at h0
        obtain ⟨h1, h2⟩ := rowRuns_more he h0
        have hb := rowRuns_in ra rb y k b (by rw [h0]; simp)
        rw [← ih, h0, h2]
        split
        · rename_i hc
          rw [cnt_app, cnt_app, cnt_cons, cnt_cons, cnt_nil]
          have : (if coverB { b with x1 := (k : Int) } X Y = true then 1 else 0 : Nat) = (if coverB b X Y = true then 1 else 0) + if Y = y ∧ X = k then 1 else 0 := by
            refine ite_sum ?_ ?_
            · rw [coverB_iff, coverB_iff]
              show (b.x0 ≤ X ∧ X ≤ (k : Int) ∧ b.y0 ≤ Y ∧ Y ≤ b.y1) ↔ _
              omega
            · rw [coverB_iff]
              omega
          rw [this]; omega
        · rw [cnt_app (L ++ [b]), cnt_cons, cnt_nil, Nat.zero_add]
          congr 1
          refine ite_eq_nat ?_
          rw [coverB_iff]
          show ((k : Int) ≤ X ∧ X ≤ k ∧ y ≤ Y ∧ Y ≤ y) ↔ _
          omega
/-- the boxes of some runs more -/
theorem fold_ext (X Y : Int) : ∀ (rs l : List Bx), (∀ r ∈ rs, r.y0 = r.y1) → (∀ b ∈ l, b.y0 ≤ b.y1) → cnt (rs.foldl extL l) X Y = cnt l X Y + cnt rs X Y ∧ ∀ b ∈ rs.foldl extL l, b.y0 ≤ b.y1
  | [], l, _, hl => ⟨rfl, hl⟩
  | r :: rs, l, hr, hl => by
    have h0 := hr r (by simp)
    have h1 : ∀ b ∈ extL l r, b.y0 ≤ b.y1 := fun b hb => by
      rcases extL_mem hb with h | h | ⟨c, h2, ⟨h3, h4, h5⟩, h6⟩
      · subst h; omega
      · exact hl b h
      · have := hl c h2
        rw [h6]; show c.y0 ≤ r.y1; omega
    obtain ⟨i1, i2⟩ := fold_ext X Y rs (extL l r) (fun q hq => hr q (List.mem_cons_of_mem _ hq)) h1
    refine ⟨?_, i2⟩
    rw [List.foldl_cons, i1, extL_cnt r h0 X Y l hl, cnt_cons]
    omega
/-- bounds of the boxes -/
def InB (W H : Int) (b : Bx) : Prop := 0 ≤ b.x0 ∧ b.x0 ≤ b.x1 ∧ b.x1 < W ∧ 0 ≤ b.y0 ∧ b.y0 ≤ b.y1 ∧ b.y1 < H
theorem fold_in (W H : Int) : ∀ (rs l : List Bx), (∀ r ∈ rs, InB W H r) → (∀ b ∈ l, InB W H b) → ∀ b ∈ rs.foldl extL l, InB W H b
  | [], l, _, hl => hl
  | r :: rs, l, hr, hl => by
    have h0 := hr r (by simp)
    rw [List.foldl_cons]
    refine fold_in W H rs (extL l r) (fun q hq => hr q (List.mem_cons_of_mem _ hq)) fun b hb => ?_
    rcases extL_mem hb with h | h | ⟨c, h2, ⟨h3, h4, h5⟩, h6⟩
    · rw [h]; exact h0
    · exact hl b h
    · have hc := hl c h2
      rw [h6]
      obtain ⟨a1, a2, a3, a4, a5, a6⟩ := hc
      obtain ⟨b1, b2, b3, b4, b5, b6⟩ := h0
      refine ⟨a1, a2, a3, a4, ?_, b6⟩
      show c.y0 ≤ r.y1
      omega
section
variable {a b : P4} {W H : Nat}
theorem bxTo_in (hw : a.p0.w = W) : ∀ y : Nat, ∀ q ∈ bxTo a b y, InB W y q
  | 0 => fun q hq => by simp [bxTo] at hq
  | y + 1 => by
    refine fold_in _ _ _ _ (fun r hr => ?_) (fun q hq => ?_)
    · have := rowRuns_in _ _ _ _ r hr
      rw [hw] at this
      simp only [Int.toNat_natCast] at this
      unfold InB
      omega
    · have := bxTo_in hw y q hq
      unfold InB at *
      omega
theorem bxTo_cnt (hw : a.p0.w = W) (hla : (colL a).length = H * W) (hlb : (colL b).length = H * W) (X Y : Int) : ∀ y : Nat, y ≤ H → cnt (bxTo a b y) X Y = if 0 ≤ X ∧ X < W ∧ 0 ≤ Y ∧ Y < y ∧ (colL a)[Y.toNat * W + X.toNat]! ≠ (colL b)[Y.toNat * W + X.toNat]! then 1 else 0
  | 0, _ => by rw [if_neg (by omega)]; rfl
  | y + 1, hy => by
    have ih := bxTo_cnt hw hla hlb X Y y (by omega)
    obtain ⟨h1, _⟩ := fold_ext X Y (bxRun a b y) (bxTo a b y) (fun r hr => by have := rowRuns_in _ _ _ _ r hr; omega) (fun q hq => (bxTo_in hw y q hq).2.2.2.2.1)
    show cnt ((bxRun a b y).foldl extL (bxTo a b y)) X Y = _
    rw [h1, ih]
    unfold bxRun
    rw [rowRuns_cnt, hw]
    simp only [Int.toNat_natCast]
    have hyW : y * W + W ≤ H * W := by have := Nat.mul_le_mul_right W hy; rwa [Nat.succ_mul] at this
    refine (ite_sum ⟨?_, ?_⟩ (by omega)).symm
    · rintro ⟨q1, q2, q3, q4, q5⟩
      by_cases hY : Y = y
      · subst hY
        refine .inr ⟨rfl, q1, q2, ?_⟩
        rw [rowOf_get (by omega) (by omega), rowOf_get (by omega) (by omega)]
        simpa using q5
      · exact .inl ⟨q1, q2, q3, by omega, q5⟩
    · rintro (⟨q1, q2, q3, q4, q5⟩ | ⟨q1, q2, q3, q4⟩)
      · exact ⟨q1, q2, q3, by omega, q5⟩
      · subst q1
        rw [rowOf_get (by omega) (by omega), rowOf_get (by omega) (by omega)] at q4
        exact ⟨q2, q3, by omega, by omega, by simpa using q4⟩
end
/-- THE LAW: a cell is in one box if its colors differ, else in none; and the boxes lie in the plate -/
theorem bx_exact {a b : P4} (h : bxE a b = 0) : ∃ W H : Nat, a.p0.w = W ∧ a.p0.h = H ∧ W ≤ 256 ∧ H ≤ 256 ∧ 0 < W ∧ colE a = 0 ∧ colE b = 0 ∧ b.p0.w = W ∧ b.p0.h = H ∧ (colL a).length = H * W ∧ (colL b).length = H * W
    ∧ (∀ q ∈ bxL a b, InB W H q) ∧ ∀ X Y : Int, cnt (bxL a b) X Y = if 0 ≤ X ∧ X < W ∧ 0 ≤ Y ∧ Y < H ∧ (colL a)[Y.toNat * W + X.toNat]! ≠ (colL b)[Y.toNat * W + X.toNat]! then 1 else 0 := by
  have ha : colE a = 0 := by
    by_cases h1 : colE a = 0
    · exact h1
    · rw [bxE_a rfl h1] at h; exact h
  have hb : colE b = 0 := by
    by_cases h1 : colE b = 0
    · exact h1
    · rw [bxE_b ha rfl h1] at h; exact h
  have hs : a.p0.w = b.p0.w ∧ a.p0.h = b.p0.h := by
    by_cases h1 : a.p0.w = b.p0.w ∧ a.p0.h = b.p0.h
    · exact h1
    · rw [bxE_s ha hb h1] at h; omega
  obtain ⟨W, H, e1, e2, e3, e4, e5⟩ := size_nat ha
  obtain ⟨W', H', f1, f2, f3, f4, f5⟩ := size_nat hb
  have eW : W' = W := by omega
  have eH : H' = H := by omega
  subst eW eH
  have hp : 0 < W' := by have := (chk_zero ((colE_zero ha).1 0 (by omega))).1.1; change 1 ≤ a.p0.w at this; omega
  refine ⟨W', H', e1, e2, e3, e4, hp, ha, hb, f1, f2, e5, f5, ?_, ?_⟩
  · unfold bxL; rw [e2]; exact bxTo_in e1 _
  · intro X Y
    unfold bxL
    rw [e2]
    exact bxTo_cnt e1 e5 f5 X Y _ (by simp)
end Go.Proofs
