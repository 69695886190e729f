/- Plain: what a polygon and the same polygon turned or reversed have in common. -/
import Derived.Test.YtafaojmkbbhjmaaP7
set_option linter.unusedVariables false
set_option linter.unusedSimpArgs false
namespace Go.Proofs
open Go.RowKit Go.Proofs.Mp

theorem pairs_pw (p : Nat → Nat → Bool) (n : Nat) : pairsB p n = true ↔ (List.range n).Pairwise fun i j => p i j = true := by
  rw [pairsB_iff, List.pairwise_iff_getElem]
  constructor
  · intro h i j hi hj hij
    rw [List.getElem_range, List.getElem_range]
    exact h j (by simpa using hj) i hij
  · intro h j hj i hi
    have := h i j (by simp; omega) (by simpa using hj) hi
    rw [List.getElem_range, List.getElem_range] at this
    exact this
theorem range_map (l : List Pt) : (List.range l.length).map (fun i => l[i]!) = l := by
  apply List.ext_getElem
  · simp
  · intro i h1 h2
    rw [List.getElem_map, List.getElem_range, getElem!_pos l i h2]
theorem ne_pw (l : List Pt) : pairsB (neP l) l.length = true ↔ l.Pairwise fun a b => a ≠ b := by
  rw [pairs_pw]
  conv => rhs; rw [← range_map l]
  rw [List.pairwise_map]
  have e : ∀ i j, neP l i j = true ↔ l[i]! ≠ l[j]! := by
    intro i j
    unfold neP
    rw [Bool.not_eq_true', decide_eq_false_iff_not]
    exact ⟨fun h g => h g.symm, fun h g => h g.symm⟩
  simp only [e]
def AP (e f : Ed) : Bool :=
  if e.2 = f.1 then !onB e.1 e.2 f.2 && !onB f.1 f.2 e.1
  else if f.2 = e.1 then !onB f.1 f.2 e.2 && !onB e.1 e.2 f.1
  else !touchB e.1 e.2 f.1 f.2
theorem onB_end1 (a b : Pt) : onB a b a = true := onB_iff.2 ⟨(tw_self a b).2, by unfold inBx; omega⟩
theorem onB_end2 (a b : Pt) : onB a b b = true := onB_iff.2 ⟨(tw_self a b).1, by unfold inBx; omega⟩
theorem AP_symm (e f : Ed) : AP e f = AP f e := by
  obtain ⟨a, b⟩ := e
  obtain ⟨c, d⟩ := f
  unfold AP
  dsimp only
  by_cases h1 : b = c <;> by_cases h2 : d = a
  · subst h1; subst h2
    simp [onB_end1, onB_end2]
  · rw [if_pos h1, if_neg h2, if_pos h1]
  · rw [if_neg h1, if_pos h2, if_pos h2]
  · rw [if_neg h1, if_neg h2, if_neg h2, if_neg h1, touch_symm]
theorem sd_turn (a b p : Pt) : sd b a p = -sd a b p := by unfold sd; rw [tw_swap, sg_neg]
theorem touch_sw (a b c d : Pt) : touchB b a d c = touchB a b c d := by
  unfold touchB
  rw [onB_swap a b, onB_swap a b, onB_swap c d, onB_swap c d, sd_turn a b, sd_turn a b, sd_turn c d, sd_turn c d, Int.neg_mul_neg, Int.neg_mul_neg, Int.mul_comm (sd a b d), Int.mul_comm (sd c d b)]
  generalize onB a b c = A
  generalize onB a b d = B
  generalize onB c d a = C
  generalize onB c d b = D
  generalize decide (sd a b c * sd a b d < 0) = E
  generalize decide (sd c d a * sd c d b < 0) = F
  cases A <;> cases B <;> cases C <;> cases D <;> rfl
theorem AP_sw (e f : Ed) : AP (swE e) (swE f) = AP e f := by
  obtain ⟨a, b⟩ := e
  obtain ⟨c, d⟩ := f
  unfold AP swE
  dsimp only
  by_cases h1 : b = c <;> by_cases h2 : d = a
  · subst h1; subst h2
    simp [onB_end1, onB_end2]
  · rw [if_pos h1, if_neg (fun h => h2 h.symm), if_pos h1.symm, onB_swap c d, onB_swap a b, Bool.and_comm]
  · rw [if_neg h1, if_pos h2, if_pos h2.symm, onB_swap c d, onB_swap a b, Bool.and_comm]
  · rw [if_neg h1, if_neg h2, if_neg (fun h => h2 h.symm), if_neg (fun h => h1 h.symm), touch_sw]
theorem ap_pw (l : List Pt) : pairsB (apP l) l.length = true ↔ (EL l).Pairwise fun e f => AP e f = true := by
  rw [pairs_pw]
  unfold EL
  rw [List.pairwise_map]
  have e : ∀ i j, apP l i j = true ↔ AP (l[i]!, edE l i) (l[j]!, edE l j) = true := by
    intro i j
    rw [AP_symm]
    exact Iff.rfl
  simp only [e]
theorem Same.chk {l' l : List Pt} (h : Same l' l) : chkE l' = chkE l := by
  have h1 : pairsB (neP l') l'.length = pairsB (neP l) l.length := by
    rw [Bool.eq_iff_iff, ne_pw, ne_pw]
    exact h.1.pairwise_iff (fun g => g.symm)
  have h2 : pairsB (apP l') l'.length = pairsB (apP l) l.length := by
    rw [Bool.eq_iff_iff, ap_pw, ap_pw]
    have hs : ∀ {e f : Ed}, AP e f = true → AP f e = true := fun {e f} g => by rw [AP_symm]; exact g
    rcases h.2 with g | g
    · exact g.pairwise_iff hs
    · rw [g.pairwise_iff hs, List.pairwise_map]
      simp only [AP_sw]
  rw [chk_ref, chk_ref]
  unfold rchkE
  rw [h.poly, h1, h2]
theorem bndTo_att {l : List Pt} (h0 : 0 < l.length) : ∀ k, k ≤ l.length → (∃ j, j < l.length ∧ l[j]!.1 = (bndTo l k).x0) ∧ (∃ j, j < l.length ∧ l[j]!.2 = (bndTo l k).y0) ∧ (∃ j, j < l.length ∧ l[j]!.1 = (bndTo l k).x1) ∧ (∃ j, j < l.length ∧ l[j]!.2 = (bndTo l k).y1)
  | 0, _ => ⟨⟨0, h0, rfl⟩, ⟨0, h0, rfl⟩, ⟨0, h0, rfl⟩, ⟨0, h0, rfl⟩⟩
  | k + 1, hk => by
    obtain ⟨⟨j1, a1, b1⟩, ⟨j2, a2, b2⟩, ⟨j3, a3, b3⟩, ⟨j4, a4, b4⟩⟩ := bndTo_att h0 k (by omega)
    rw [show bndTo l (k + 1) = bStep (bndTo l k) l[k]! from rfl]
    unfold bStep
    dsimp only
    refine ⟨?_, ?_, ?_, ?_⟩
    · rcases Int.le_total (bndTo l k).x0 l[k]!.1 with g | g
      · exact ⟨j1, a1, by omega⟩
      · exact ⟨k, by omega, by omega⟩
    · rcases Int.le_total (bndTo l k).y0 l[k]!.2 with g | g
      · exact ⟨j2, a2, by omega⟩
      · exact ⟨k, by omega, by omega⟩
    · rcases Int.le_total l[k]!.1 (bndTo l k).x1 with g | g
      · exact ⟨j3, a3, by omega⟩
      · exact ⟨k, by omega, by omega⟩
    · rcases Int.le_total l[k]!.2 (bndTo l k).y1 with g | g
      · exact ⟨j4, a4, by omega⟩
      · exact ⟨k, by omega, by omega⟩
theorem bnd_mem {l : List Pt} {p : Pt} (h : p ∈ l) : (bnd l).x0 ≤ p.1 ∧ p.1 ≤ (bnd l).x1 ∧ (bnd l).y0 ≤ p.2 ∧ p.2 ≤ (bnd l).y1 := by
  obtain ⟨i, hi, rfl⟩ := List.mem_iff_getElem.1 h
  have := bnd_has hi
  rw [getElem!_pos l i hi] at this
  exact this
theorem bnd_att {l : List Pt} (h0 : 0 < l.length) : (∃ p ∈ l, p.1 = (bnd l).x0) ∧ (∃ p ∈ l, p.2 = (bnd l).y0) ∧ (∃ p ∈ l, p.1 = (bnd l).x1) ∧ (∃ p ∈ l, p.2 = (bnd l).y1) := by
  have hm : ∀ j, j < l.length → l[j]! ∈ l := fun j hj => by rw [getElem!_pos l j hj]; exact List.getElem_mem _
  obtain ⟨⟨j1, a1, b1⟩, ⟨j2, a2, b2⟩, ⟨j3, a3, b3⟩, ⟨j4, a4, b4⟩⟩ := bndTo_att h0 l.length (Nat.le_refl _)
  unfold bnd
  rw [if_neg (by omega)]
  exact ⟨⟨_, hm j1 a1, b1⟩, ⟨_, hm j2 a2, b2⟩, ⟨_, hm j3 a3, b3⟩, ⟨_, hm j4 a4, b4⟩⟩
theorem Same.bnd {l' l : List Pt} (h : Same l' l) (h0 : 0 < l.length) : bnd l' = bnd l := by
  have h1 : 0 < l'.length := by rw [h.len]; exact h0
  obtain ⟨⟨p1, m1, e1⟩, ⟨p2, m2, e2⟩, ⟨p3, m3, e3⟩, ⟨p4, m4, e4⟩⟩ := bnd_att h0
  obtain ⟨⟨q1, n1, f1⟩, ⟨q2, n2, f2⟩, ⟨q3, n3, f3⟩, ⟨q4, n4, f4⟩⟩ := bnd_att h1
  have k1 := bnd_mem (h.1.mem_iff.2 m1)
  have k2 := bnd_mem (h.1.mem_iff.2 m2)
  have k3 := bnd_mem (h.1.mem_iff.2 m3)
  have k4 := bnd_mem (h.1.mem_iff.2 m4)
  have g1 := bnd_mem (h.1.mem_iff.1 n1)
  have g2 := bnd_mem (h.1.mem_iff.1 n2)
  have g3 := bnd_mem (h.1.mem_iff.1 n3)
  have g4 := bnd_mem (h.1.mem_iff.1 n4)
  have d1 : (Go.Proofs.bnd l').x0 = (Go.Proofs.bnd l).x0 := by omega
  have d2 : (Go.Proofs.bnd l').y0 = (Go.Proofs.bnd l).y0 := by omega
  have d3 : (Go.Proofs.bnd l').x1 = (Go.Proofs.bnd l).x1 := by omega
  have d4 : (Go.Proofs.bnd l').y1 = (Go.Proofs.bnd l).y1 := by omega
  generalize Go.Proofs.bnd l' = b at *
  generalize Go.Proofs.bnd l = b' at *
  obtain ⟨x0, y0, x1, y1⟩ := b
  obtain ⟨x0', y0', x1', y1'⟩ := b'
  dsimp only at d1 d2 d3 d4
  rw [d1, d2, d3, d4]
theorem Same.midr {l' l : List Pt} (h : Same l' l) (h0 : 0 < l.length) : midR l' = midR l := by
  unfold midR mdR
  rw [h.chk, h.bnd h0]
  have e : okY l' = okY l := by
    funext y
    unfold okY
    rw [h.row h0]
  rw [e]
theorem Same.midp {l' l : List Pt} (h : Same l' l) (h0 : 0 < l.length) : midP l' = midP l := by
  unfold midP
  rw [h.midr h0]
  cases midR l with
  | none => rfl
  | some y =>
    show (longX (rowL l' y), y) = (longX (rowL l y), y)
    rw [h.row h0]
theorem sum_perm {a b : List Int} (h : a.Perm b) : a.sum = b.sum := by
  induction h with
  | nil => rfl
  | cons x h ih => simp only [List.sum_cons, ih]
  | swap x y l => simp only [List.sum_cons]; omega
  | trans h1 h2 ih1 ih2 => exact ih1.trans ih2
theorem sum_sw (es : List Ed) : ((es.map swE).map fun e => edA e.1 e.2).sum = -(es.map fun e => edA e.1 e.2).sum := by
  induction es with
  | nil => rfl
  | cons e es ih =>
    have k : edA (swE e).1 (swE e).2 = -edA e.1 e.2 := by unfold edA swE; dsimp only; omega
    simp only [List.map_cons, List.sum_cons, ih, k]
    omega
theorem rot_twice (l : List Pt) (n : Nat) : twN (l.drop n ++ l.take n) = twN l := by
  have h := same_rot l n
  have g := EL_rot (l.take n) (l.drop n)
  rw [List.take_append_drop] at g
  unfold twN
  rw [h.poly, twTo_sum, twTo_sum]
  change (if _ then ((EL (l.drop n ++ l.take n)).map _).sum else _) = (if _ then ((EL l).map _).sum else _)
  rw [sum_perm (g.map _)]
theorem rev_twice (l : List Pt) : twN l.reverse = -twN l := by
  have h := same_rev l
  have g := EL_rev l
  unfold twN
  rw [h.poly, twTo_sum, twTo_sum]
  change (if _ then ((EL l.reverse).map _).sum else _) = -(if _ then ((EL l).map _).sum else _)
  rw [sum_perm (g.map _), sum_sw]
  split <;> rfl
end Go.Proofs
