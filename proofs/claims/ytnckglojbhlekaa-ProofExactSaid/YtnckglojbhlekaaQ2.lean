/- Four plates: words; sizeOf; the comparison of sizes. -/
import Derived.Test.YtnckglojbhlekaaQ1
import Derived.ChangeKeysEq
import Derived.Laws.OwnMore
set_option linter.unusedVariables false
set_option linter.unusedSimpArgs false
namespace Go.Proofs
open Go.RowKit Go.Proofs.Mp

theorem wpAnyH_share {P : Program} {md : Region.Mode} {ops : Array Oper} {Q : Exit → Act → World → Prop} {S : World → Prop} {f0 : Nat} {l0 : Array Bool} {a0 : Act} {w0 : World} {C : Type} (T : (Nat → Array Bool → Act → World → Prop) → Nat → Array Bool → C → Prop) {x : Nat} {y : Array Bool} {z : C} (main : T (wpAnyH P md ops Q S) x y z → wpAnyH P md ops Q S f0 l0 a0 w0) (tail : T (wpAnyH P md ops Q S) x y z) : wpAnyH P md ops Q S f0 l0 a0 w0 := main tail
theorem wpAnyH_cast {P : Program} {md : Region.Mode} {ops : Array Oper} {Q : Exit → Act → World → Prop} {S : World → Prop} {f f' : Nat} {l l' : Array Bool} {a : Act} {w : World} (hf : f = f') (hl : l = l') (h : wpAnyH P md ops Q S f' l' a w) : wpAnyH P md ops Q S f l a w := by
  subst hf; subst hl; exact h

/-- an element of a row of the call's own: it reads, and may be written -/
theorem Mp.OwnI.at_ {e : TypeId} {w : World} {base : Nat} {v : Value} {xs : List Int} (h : OwnI e w base v xs) {k : Nat} (hk : k < xs.length) :
    ∃ g cap, v = .slice (some ⟨g, 0, none⟩) xs.length cap ∧ base ≤ g ∧ g < w.heap.size ∧ w.cell? ⟨g, k, none⟩ = some (.int .i64 xs[k]!) ∧ w.frozen? ⟨g, k, none⟩ = false ∧
      ∀ u : Int, OwnI e (w.setCell ⟨g, k, none⟩ (.int .i64 u)) base v (xs.set k u) ∧ Below base w (w.setCell ⟨g, k, none⟩ (.int .i64 u)) := by
  have h0 := h
  rcases h.2 with ⟨_, hn⟩ | ⟨g, cap, cur, rfl, hb, hh, hnc, hm, hcs, htake⟩
  · omega
  · have hR := Own.rd encI_len h0
    obtain ⟨b, off, he, hlt, hc⟩ := RdI.get hR (Below.refl _ _) hk
    injection he with he
    injection he with e1 e2
    subst e1; subst e2
    refine ⟨g, cap, rfl, hb, hlt, by simpa using hc, frozen_of_row w g _ cur e hh, fun u => ⟨?_, (Below.refl _ _).setCell (p := ⟨g, k, none⟩) hb _⟩⟩
    have hs := (World.ownsRow.stored h0 k (.int .i64 u)).1
    have key : ∀ (l : List Int) (k : Nat) (u : Int), (l.set k u).flatMap Mp.encI = (l.flatMap Mp.encI).set k (.int .i64 u) := by
      intro l
      induction l with
      | nil => intro k u; rfl
      | cons x l ih =>
        intro k u
        rcases k with _ | k
        · rfl
        · show Mp.encI x ++ (l.set k u).flatMap Mp.encI = _
          rw [ih]; rfl
    unfold OwnI Own
    rw [key, List.length_set]
    exact hs

/-- four plates -/
structure P4 where
  p0 : Pl
  p1 : Pl
  p2 : Pl
  p3 : Pl
def P4.get (x : P4) : Nat → Pl
  | 0 => x.p0
  | 1 => x.p1
  | 2 => x.p2
  | _ => x.p3
def agg4 (x : P4) : Value := .agg #[.int .i64 x.p0.w, .int .i64 x.p0.h, .slice x.p0.a x.p0.v.length x.p0.c, .int .i64 x.p1.w, .int .i64 x.p1.h, .slice x.p1.a x.p1.v.length x.p1.c, .int .i64 x.p2.w, .int .i64 x.p2.h, .slice x.p2.a x.p2.v.length x.p2.c, .int .i64 x.p3.w, .int .i64 x.p3.h, .slice x.p3.a x.p3.v.length x.p3.c]
/-- the values of all four read, and there are not too many -/
def Rd4 (w : World) (x : P4) : Prop := ∀ j, RdI w (x.get j).a (x.get j).v
def Few4 (x : P4) (N : Nat) : Prop := ∀ j, (x.get j).v.length ≤ N
theorem Rd4.below {w w' : World} {x : P4} (h : Rd4 w x) (hb : Below w.heap.size w w') : Rd4 w' x := fun j => (h j).below hb
/-- the error of four plates -/
def colE (x : P4) : Int :=
  if chk x.p0 ≠ 0 then chk x.p0 else if chk x.p1 ≠ 0 then chk x.p1 else if chk x.p2 ≠ 0 then chk x.p2 else if chk x.p3 ≠ 0 then chk x.p3
  else if (x.p1.w = x.p0.w ∧ x.p1.h = x.p0.h) ∧ (x.p2.w = x.p0.w ∧ x.p2.h = x.p0.h) ∧ x.p3.w = x.p0.w ∧ x.p3.h = x.p0.h then 0 else 1
/-- a cell's color, of the first j plates -/
def colP (x : P4) (i : Nat) : Nat → Int
  | 0 => 0
  | j + 1 => colP x i j * 101 + (x.get j).v[i]!
def colL (x : P4) : List Int := (List.range x.p0.v.length).map fun i => colP x i 4
def colR (x : P4) : List Int := if colE x = 0 then colL x else []
theorem colL_len (x : P4) : (colL x).length = x.p0.v.length := by simp [colL]

theorem chk_zero {p : Pl} (h : chk p = 0) : (1 ≤ p.w ∧ p.w ≤ 256) ∧ (1 ≤ p.h ∧ p.h ≤ 256) ∧ (p.v.length : Int) = p.w * p.h ∧ ∀ i, i < p.v.length → 0 ≤ p.v[i]! ∧ p.v[i]! ≤ 100 := by
  unfold chk at h
  split at h
  · rename_i hs
    rw [Bool.and_eq_true] at hs
    split at h
    · rename_i hl
      split at h
      · rename_i ha
        refine ⟨sideB_iff hs.1, sideB_iff hs.2, hl, fun i hi => ?_⟩
        rw [List.all_eq_true] at ha
        have := ha p.v[i]! (by rw [getElem!_pos p.v i hi]; exact List.getElem_mem hi)
        unfold inkB at this
        simpa using this
      · exact absurd h (by decide)
    · exact absurd h (by decide)
  · exact absurd h (by decide)
theorem chk_two (p : Pl) : chk p = 0 ∨ chk p = 1 ∨ chk p = 2 := by
  unfold chk
  split
  · split
    · split <;> simp
    · simp
  · simp
/-- all four are valid -/
def Ok4 (x : P4) : Prop := ∀ j, j < 4 → chk (x.get j) = 0
/-- all have the size of the first one -/
def Even4 (x : P4) : Prop := ∀ j, j < 4 → (x.get j).w = x.p0.w ∧ (x.get j).h = x.p0.h
theorem colE_bad {x : P4} {k : Nat} (hk : k < 4) (h : ∀ j, j < k → chk (x.get j) = 0) (hn : chk (x.get k) ≠ 0) : colE x = chk (x.get k) := by
  unfold colE
  rcases k with _ | _ | _ | _ | k
  · rw [if_pos (show chk x.p0 ≠ 0 from hn)]; rfl
  · have h0 : chk x.p0 = 0 := h 0 (by omega)
    rw [if_neg (by simp [h0]), if_pos (show chk x.p1 ≠ 0 from hn)]; rfl
  · have h0 : chk x.p0 = 0 := h 0 (by omega)
    have h1 : chk x.p1 = 0 := h 1 (by omega)
    rw [if_neg (by simp [h0]), if_neg (by simp [h1]), if_pos (show chk x.p2 ≠ 0 from hn)]; rfl
  · have h0 : chk x.p0 = 0 := h 0 (by omega)
    have h1 : chk x.p1 = 0 := h 1 (by omega)
    have h2 : chk x.p2 = 0 := h 2 (by omega)
    rw [if_neg (by simp [h0]), if_neg (by simp [h1]), if_neg (by simp [h2]), if_pos (show chk x.p3 ≠ 0 from hn)]; rfl
  · omega
theorem colE_ok {x : P4} (h : Ok4 x) : colE x = if (x.p1.w = x.p0.w ∧ x.p1.h = x.p0.h) ∧ (x.p2.w = x.p0.w ∧ x.p2.h = x.p0.h) ∧ x.p3.w = x.p0.w ∧ x.p3.h = x.p0.h then 0 else 1 := by
  have h0 : chk x.p0 = 0 := h 0 (by omega)
  have h1 : chk x.p1 = 0 := h 1 (by omega)
  have h2 : chk x.p2 = 0 := h 2 (by omega)
  have h3 : chk x.p3 = 0 := h 3 (by omega)
  unfold colE
  rw [if_neg (by simp [h0]), if_neg (by simp [h1]), if_neg (by simp [h2]), if_neg (by simp [h3])]
theorem colE_even {x : P4} (h : Ok4 x) (he : Even4 x) : colE x = 0 := by
  rw [colE_ok h, if_pos ⟨he 1 (by omega), he 2 (by omega), he 3 (by omega)⟩]
theorem colE_odd {x : P4} (h : Ok4 x) {k : Nat} (hk : k < 4) (hn : ¬ ((x.get k).w = x.p0.w ∧ (x.get k).h = x.p0.h)) : colE x = 1 := by
  rw [colE_ok h, if_neg]
  rintro ⟨a, b, c⟩
  rcases k with _ | _ | _ | _ | k
  · exact hn ⟨rfl, rfl⟩
  · exact hn a
  · exact hn b
  · exact hn c
  · omega
theorem colE_zero {x : P4} (h : colE x = 0) : Ok4 x ∧ Even4 x := by
  have h4 : Ok4 x := by
    intro j hj
    apply Classical.byContradiction
    intro hn
    have key : ∀ k, k < 4 → chk (x.get k) ≠ 0 → False := by
      intro k
      induction k using Nat.strongRecOn with
      | ind k ih =>
        intro hk hn
        have := colE_bad hk (fun j hj => by
          apply Classical.byContradiction
          intro hh
          exact ih j hj (by omega) hh) hn
        rw [h] at this
        exact hn this.symm
    exact key j hj hn
  refine ⟨h4, fun j hj => ?_⟩
  apply Classical.byContradiction
  intro hn
  have := colE_odd h4 hj hn
  rw [h] at this
  exact absurd this (by decide)
theorem colP_bound {x : P4} (h : Ok4 x) {i : Nat} (hi : ∀ j, j < 4 → i < (x.get j).v.length) : ∀ j, j ≤ 4 → 0 ≤ colP x i j ∧ colP x i j ≤ 101 ^ j - 1 := by
  intro j
  induction j with
  | zero => intro _; simp [colP]
  | succ j ih =>
    intro hj
    obtain ⟨h1, h2⟩ := ih (by omega)
    obtain ⟨_, _, _, hv⟩ := chk_zero (h j (by omega))
    obtain ⟨h3, h4⟩ := hv i (hi j (by omega))
    unfold colP
    rw [Int.pow_succ]
    omega

set_option maxHeartbeats 400000 in
theorem size_of (p : Pl) (w : World) : Calls Try.prog 27 #[aggP p] w (RetV w (.agg #[.int .i64 p.w, .int .i64 p.h])) := by
  unfold aggP
  go_enter Try.func27, Try.ntmps27
  go_wp2
  exact bodyPost_ret (v := .agg #[.int .i64 p.w, .int .i64 p.h]) (by simp [results, Try.results27, go_sem]) rfl ⟨rfl, ((bw1 _ _).alloc (by simp) _)⟩

theorem Try.neq68 (x1 x2 y1 y2 : Int) (W : World) : (binOp .neq 68 (.agg #[.int .i64 x1, .int .i64 x2]) (.agg #[.int .i64 y1, .int .i64 y2])).run Try.prog W = .ok (.bool (decide (x1 = y1 → x2 ≠ y2))) W := by
  have u3 := Try.underlying3
  have ag3 := Try.isAgg3
  have z3 := Try.sizeOf3
  have hS68 : Try.prog.underlying 68 = some (.struct (Try.prog.fieldsOf 68)) := by kernel_rfl
  have hp68 : Try.prog.stoodInHeld 68 = false := by kernel_rfl
  rw [run_neq_struct, show (10000 : Nat) = 9999 + 1 from rfl, run_equalIn_agg W 9999 68 _ _ hS68 hp68]
  simp only [Program.fieldsOf, Try.underlying68]
  go_simp
  by_cases h1 : x1 = y1 <;> by_cases h2 : x2 = y2 <;> simp [h1, h2]
theorem Try.guard68 : Try.prog.eqGuardType Try.prog.depth 68 = false := by kernel_rfl
theorem Try.index25 (x : P4) (W : World) :
    (Instr.index 25 (agg4 x) (.int .i64 0)).run Try.prog W = .ok (aggP x.p0) W ∧ (Instr.index 25 (agg4 x) (.int .i64 1)).run Try.prog W = .ok (aggP x.p1) W ∧
    (Instr.index 25 (agg4 x) (.int .i64 2)).run Try.prog W = .ok (aggP x.p2) W ∧ (Instr.index 25 (agg4 x) (.int .i64 3)).run Try.prog W = .ok (aggP x.p3) W := by
  have u := Try.underlying25
  have u24 := Try.underlying24
  have z := Try.sizeOf24
  have ag := Try.isAgg24
  unfold agg4 aggP
  refine ⟨?_, ?_, ?_, ?_⟩
  all_goals
    simp [Instr.index, run_underlying u, asIntOf, go_sem]
end Go.Proofs
