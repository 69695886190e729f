/- Errata, plain: the steps of two ascending lists of products. No program in sight. -/
import Derived.Test.YtnckglojbhlekaaQ15
import Derived.Test.YtnckglojbhlekaaA11
set_option linter.unusedVariables false
set_option linter.unusedSimpArgs false
namespace Go.Proofs
open Go.RowKit Go.Proofs.Mp

inductive St where
  | one (x : Pd)
  | two (x y : Pd)
instance : Inhabited St := ⟨.one z0⟩
def stE : St → Int
  | .one x => whE x.p
  | .two x y => shE x.s y.s x.p y.p
def stD : St → List Df
  | .one x => whL x.s x.p
  | .two x y => shL x.s y.s x.p y.p
def stK : St → Int
  | .one x => x.s
  | .two x y => x.s
def evE : List St → Int
  | [] => 0
  | s :: r => if stE s ≠ 0 then stE s else evE r
def evA (l : List St) : List Df := l.flatMap stD
def evL (l : List St) : List Df := if evE l = 0 then evA l else []
def mg : List Pd → List Pd → List St
  | [], [] => []
  | x :: xs, [] => .one x :: mg xs []
  | [], y :: ys => .one y :: mg [] ys
  | x :: xs, y :: ys => if x.s < y.s then .one x :: mg xs (y :: ys) else if y.s < x.s then .one y :: mg (x :: xs) ys else .two x y :: mg xs ys
termination_by a b => a.length + b.length
def erE (a b : List Pd) : Int := if ascB (shs a) = true ∧ ascB (shs b) = true then evE (mg a b) else 10
def erL (a b : List Pd) : List Df := if ascB (shs a) = true ∧ ascB (shs b) = true then evL (mg a b) else []
def stepOf (a b : List Pd) (n : Int) : St :=
  match fnd a n, fnd b n with
  | some x, some y => .two x y
  | some x, none => .one x
  | none, y => .one (y.getD z0)
theorem fnd_nil (n : Int) : fnd [] n = none := rfl
theorem fnd_cons (x : Pd) (xs : List Pd) (n : Int) : fnd (x :: xs) n = if x.s = n then some x else fnd xs n := by
  unfold fnd
  rw [List.find?_cons]
  by_cases h : x.s = n <;> simp [h]
theorem fnd_lt {xs : List Pd} {n : Int} (h : ∀ y ∈ xs, n < y.s) : fnd xs n = none := by
  unfold fnd
  rw [List.find?_eq_none]
  intro y hy
  have := h y hy
  simp
  omega

theorem asc_shs {x : Pd} {xs : List Pd} (h : Asc (shs (x :: xs))) : (∀ n ∈ shs xs, x.s < n) ∧ Asc (shs xs) := List.pairwise_cons.1 h
theorem fnd_skip {x : Pd} {xs : List Pd} {n : Int} (h : x.s < n) : fnd (x :: xs) n = fnd xs n := by rw [fnd_cons, if_neg (by omega)]
theorem fnd_hit (x : Pd) (xs : List Pd) : fnd (x :: xs) x.s = some x := by rw [fnd_cons, if_pos rfl]
theorem fnd_lts {xs : List Pd} {n : Int} (h : ∀ m ∈ shs xs, n < m) : fnd xs n = none := fnd_lt fun y hy => h _ (List.mem_map_of_mem hy)

/-- what the merged steps are: their numbers ascend, are those of either list, and each is the step of its number -/
theorem mg_spec (a b : List Pd) (ha : Asc (shs a)) (hb : Asc (shs b)) :
    Asc ((mg a b).map stK) ∧ (∀ n, n ∈ (mg a b).map stK ↔ n ∈ shs a ∨ n ∈ shs b) ∧ ∀ s ∈ mg a b, s = stepOf a b (stK s) := by
  fun_induction mg a b with
  | case1 => exact ⟨List.Pairwise.nil, fun n => by simp [shs], fun s hs => by cases hs⟩
  | case2 x xs ih =>
    obtain ⟨h1, h2⟩ := asc_shs ha
    obtain ⟨i1, i2, i3⟩ := ih h2 hb
    have lo : ∀ n ∈ (mg xs []).map stK, x.s < n := fun n hn => by
      rcases (i2 n).1 hn with h | h
      · exact h1 n h
      · simp [shs] at h
    refine ⟨List.pairwise_cons.2 ⟨lo, i1⟩, fun n => ?_, fun s hs => ?_⟩
    · rw [List.map_cons, List.mem_cons, i2 n]
      simp [shs, stK, or_assoc]
    · rcases List.mem_cons.1 hs with rfl | hs
      · simp [stepOf, stK, fnd_hit, fnd_nil]
      · have hl := lo _ (List.mem_map_of_mem hs)
        rw [i3 s hs]
        conv => lhs; unfold stepOf
        rw [← i3 s hs]
        conv => rhs; unfold stepOf
        rw [fnd_skip hl]
  | case3 y ys ih =>
    obtain ⟨h1, h2⟩ := asc_shs hb
    obtain ⟨i1, i2, i3⟩ := ih ha h2
    have lo : ∀ n ∈ (mg [] ys).map stK, y.s < n := fun n hn => by
      rcases (i2 n).1 hn with h | h
      · simp [shs] at h
      · exact h1 n h
    refine ⟨List.pairwise_cons.2 ⟨lo, i1⟩, fun n => ?_, fun s hs => ?_⟩
    · rw [List.map_cons, List.mem_cons, i2 n]
      simp [shs, stK]
    · rcases List.mem_cons.1 hs with rfl | hs
      · simp [stepOf, stK, fnd_hit, fnd_nil]
      · have hl := lo _ (List.mem_map_of_mem hs)
        have e : stepOf [] (y :: ys) (stK s) = stepOf [] ys (stK s) := by unfold stepOf; rw [fnd_skip hl]
        rw [e]
        exact i3 s hs
  | case4 x xs y ys h ih =>
    obtain ⟨h1, h2⟩ := asc_shs ha
    obtain ⟨g1, g2⟩ := asc_shs hb
    obtain ⟨i1, i2, i3⟩ := ih h2 hb
    have up : ∀ n ∈ shs (y :: ys), x.s < n := fun n hn => by
      rcases List.mem_cons.1 hn with rfl | hn
      · exact h
      · have := g1 n hn; omega
    have lo : ∀ n ∈ (mg xs (y :: ys)).map stK, x.s < n := fun n hn => by
      rcases (i2 n).1 hn with h | h
      · exact h1 n h
      · exact up n h
    refine ⟨List.pairwise_cons.2 ⟨lo, i1⟩, fun n => ?_, fun s hs => ?_⟩
    · rw [List.map_cons, List.mem_cons, i2 n]
      show (n = x.s ∨ n ∈ shs xs ∨ n ∈ shs (y :: ys)) ↔ (n ∈ x.s :: shs xs ∨ n ∈ shs (y :: ys))
      rw [List.mem_cons, or_assoc]
    · rcases List.mem_cons.1 hs with rfl | hs
      · simp [stepOf, stK, fnd_hit, fnd_lts up]
      · have hl := lo _ (List.mem_map_of_mem hs)
        have e : stepOf (x :: xs) (y :: ys) (stK s) = stepOf xs (y :: ys) (stK s) := by unfold stepOf; rw [fnd_skip hl]
        rw [e]
        exact i3 s hs
  | case5 x xs y ys h h2' ih =>
    obtain ⟨h1, h2⟩ := asc_shs ha
    obtain ⟨g1, g2⟩ := asc_shs hb
    obtain ⟨i1, i2, i3⟩ := ih ha g2
    have up : ∀ n ∈ shs (x :: xs), y.s < n := fun n hn => by
      rcases List.mem_cons.1 hn with rfl | hn
      · exact h2'
      · have := h1 n hn; omega
    have lo : ∀ n ∈ (mg (x :: xs) ys).map stK, y.s < n := fun n hn => by
      rcases (i2 n).1 hn with h | h
      · exact up n h
      · exact g1 n h
    refine ⟨List.pairwise_cons.2 ⟨lo, i1⟩, fun n => ?_, fun s hs => ?_⟩
    · rw [List.map_cons, List.mem_cons, i2 n]
      show (n = y.s ∨ n ∈ shs (x :: xs) ∨ n ∈ shs ys) ↔ (n ∈ shs (x :: xs) ∨ n ∈ y.s :: shs ys)
      rw [List.mem_cons]
      exact or_left_comm
    · rcases List.mem_cons.1 hs with rfl | hs
      · simp [stepOf, stK, fnd_hit, fnd_lts up]
      · have hl := lo _ (List.mem_map_of_mem hs)
        have e : stepOf (x :: xs) (y :: ys) (stK s) = stepOf (x :: xs) ys (stK s) := by unfold stepOf; rw [fnd_skip (x := y) hl]
        rw [e]
        exact i3 s hs
  | case6 x xs y ys h h2' ih =>
    obtain ⟨h1, h2⟩ := asc_shs ha
    obtain ⟨g1, g2⟩ := asc_shs hb
    obtain ⟨i1, i2, i3⟩ := ih h2 g2
    have hxy : x.s = y.s := by omega
    have lo : ∀ n ∈ (mg xs ys).map stK, x.s < n := fun n hn => by
      rcases (i2 n).1 hn with h | h
      · exact h1 n h
      · have := g1 n h; omega
    refine ⟨List.pairwise_cons.2 ⟨lo, i1⟩, fun n => ?_, fun s hs => ?_⟩
    · rw [List.map_cons, List.mem_cons, i2 n]
      show (n = x.s ∨ n ∈ shs xs ∨ n ∈ shs ys) ↔ (n ∈ x.s :: shs xs ∨ n ∈ y.s :: shs ys)
      rw [List.mem_cons, List.mem_cons, ← hxy]
      constructor
      · rintro (h | h | h)
        · exact .inl (.inl h)
        · exact .inl (.inr h)
        · exact .inr (.inr h)
      · rintro ((h | h) | (h | h))
        · exact .inl h
        · exact .inr (.inl h)
        · exact .inl h
        · exact .inr (.inr h)
    · rcases List.mem_cons.1 hs with rfl | hs
      · show St.two x y = stepOf (x :: xs) (y :: ys) x.s
        unfold stepOf
        rw [fnd_hit, fnd_cons, if_pos hxy.symm]
      · have hl := lo _ (List.mem_map_of_mem hs)
        have e : stepOf (x :: xs) (y :: ys) (stK s) = stepOf xs ys (stK s) := by unfold stepOf; rw [fnd_skip hl, fnd_skip (x := y) (by omega)]
        rw [e]
        exact i3 s hs
/-- the reference's steps are the merged ones -/
theorem mg_ref (a b : List Pd) (ha : ascB (shs a) = true) (hb : ascB (shs b) = true) : (putL (putL [] (shs a)) (shs b)).map (stepOf a b) = mg a b := by
  obtain ⟨i1, i2, i3⟩ := mg_spec a b ((ascB_iff _).1 ha) ((ascB_iff _).1 hb)
  have e : putL (putL [] (shs a)) (shs b) = (mg a b).map stK := Asc.unique (putL_asc _ (putL_asc _ List.Pairwise.nil)) i1 fun n => by rw [putL_mem, putL_mem, i2]; simp
  rw [e, List.map_map]
  conv => rhs; rw [← List.map_id (mg a b)]
  exact List.map_congr_left fun s hs => (i3 s hs).symm
end Go.Proofs
