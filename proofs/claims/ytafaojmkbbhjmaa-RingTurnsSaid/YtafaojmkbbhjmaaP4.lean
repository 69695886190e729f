/- The ring laws' plain law of a triangle, closed. -/
import Derived.Test.YtafaojmkbbhjmaaP3
set_option linter.unusedVariables false
set_option linter.unusedSimpArgs false
namespace Go.Proofs
open Go.RowKit Go.Proofs.Mp

theorem tw_swap (a b p : Pt) : tw b a p = -tw a b p := by unfold tw; grind
theorem onB_swap (a b p : Pt) : onB b a p = onB a b p := by
  rw [Bool.eq_iff_iff, onB_iff, onB_iff, tw_swap a b]
  unfold inBx
  omega
theorem crB_swap (a b p : Pt) : crB b a p = crB a b p := by
  rw [Bool.eq_iff_iff, crB_iff, crB_iff, tw_swap a b]
  omega
theorem sg_neg (x : Int) : sg (-x) = -sg x := by
  rcases sg_cases x with h | h | h <;> rcases sg_cases (-x) with k | k | k <;> omega
def triW (X Y Z T : Int) : Int := if sg X = sg T ∧ sg Y = sg T ∧ sg Z = sg T then 1 else if sg X = -sg T ∨ sg Y = -sg T ∨ sg Z = -sg T then -1 else 0
def triN (a b c p : Pt) : Int := if (onB a b p || onB b c p || onB c a p) = true then 0 else if (crB a b p ^^ crB b c p ^^ crB c a p) = true then 1 else -1
theorem triW_pos {X Y Z T : Int} (h : 0 < T) : triW X Y Z T = if 0 < X ∧ 0 < Y ∧ 0 < Z then 1 else if X < 0 ∨ Y < 0 ∨ Z < 0 then -1 else 0 := by
  have hT : sg T = 1 := by rcases sg_cases T with k | k | k <;> omega
  have p : ∀ x, (sg x = 1 ↔ 0 < x) ∧ (sg x = -1 ↔ x < 0) := by
    intro x
    rcases sg_cases x with k | k | k <;> omega
  unfold triW
  rw [hT]
  simp only [(p _).1, (p _).2]
theorem tri_core {a b c p : Pt} (hT : 0 < tw a b c) : triN a b c p = triW (tw a b p) (tw b c p) (tw c a p) (tw a b c) := by
  have e1 : tw b c a = tw a b c := by unfold tw; grind
  have e2 : tw c a b = tw a b c := by unfold tw; grind
  have o1 := @tri_on a b c p hT
  have o2 := @tri_on b c a p (by rw [e1]; exact hT)
  have o3 := @tri_on c a b p (by rw [e2]; exact hT)
  have hs := tri_sum a b c p
  rw [triW_pos hT]
  unfold triN
  by_cases h : (onB a b p || onB b c p || onB c a p) = true
  · rw [if_pos h]
    rw [Bool.or_eq_true, Bool.or_eq_true, o1, o2, o3] at h
    rw [if_neg (by omega), if_neg (by omega)]
  · rw [if_neg h]
    rw [Bool.or_eq_true, Bool.or_eq_true] at h
    have f : ∀ x : Bool, ¬ x = true → x = false := by intro x; cases x <;> simp
    have q := @tri_par a b c p hT (f _ (fun g => h (.inl (.inl g)))) (f _ (fun g => h (.inl (.inr g)))) (f _ (fun g => h (.inr g)))
    rw [o1, o2, o3] at h
    by_cases g : (crB a b p ^^ crB b c p ^^ crB c a p) = true
    · rw [if_pos g, if_pos (q.1 g)]
    · rw [if_neg g, if_neg (fun k => g (q.2 k)), if_pos]
      have : ¬ (0 < tw a b p ∧ 0 < tw b c p ∧ 0 < tw c a p) := fun k => g (q.2 k)
      omega
theorem tri_any {a b c p : Pt} (hT : tw a b c ≠ 0) : triN a b c p = triW (tw a b p) (tw b c p) (tw c a p) (tw a b c) := by
  rcases Int.lt_or_le 0 (tw a b c) with h | h
  · exact tri_core h
  · have e : tw a c b = -tw a b c := by unfold tw; grind
    have k := @tri_core a c b p (by rw [e]; omega)
    rw [e, tw_swap c a p, tw_swap b c p, tw_swap a b p] at k
    have k1 : triN a c b p = triN a b c p := by
      unfold triN
      rw [onB_swap c a, onB_swap b c, onB_swap a b, crB_swap c a, crB_swap b c, crB_swap a b]
      generalize onB a b p = x1
      generalize onB b c p = x2
      generalize onB c a p = x3
      generalize crB a b p = y1
      generalize crB b c p = y2
      generalize crB c a p = y3
      rw [show (x3 || x2 || x1) = (x1 || x2 || x3) by cases x1 <;> cases x2 <;> cases x3 <;> rfl, show (y3 ^^ y2 ^^ y1) = (y1 ^^ y2 ^^ y3) by cases y1 <;> cases y2 <;> cases y3 <;> rfl]
    rw [k1] at k
    rw [k]
    unfold triW
    rw [sg_neg, sg_neg, sg_neg, sg_neg]
    have hh : ∀ u v : Int, (-u = -v ↔ u = v) := by intro u v; omega
    have hn : sg (tw a b c) = -1 := by rcases sg_cases (tw a b c) with g | g | g <;> omega
    rw [hn]
    simp only [hh]
    have r : ∀ P Q R : Prop, ∀ [Decidable P] [Decidable Q] [Decidable R], (P ∧ Q ∧ R ↔ R ∧ Q ∧ P) := by intros; constructor <;> (rintro ⟨h1, h2, h3⟩; exact ⟨h3, h2, h1⟩)
    split <;> split <;> (try omega) <;> (try (split <;> omega)) <;> (try rfl)
theorem chkE_zero {l : List Pt} (h : chkE l = 0) : polyE l = 0 := by
  unfold chkE at h
  split at h
  · assumption
  · exact h
theorem ed3 (a b c : Pt) : edE [a, b, c] 0 = b ∧ edE [a, b, c] 1 = c ∧ edE [a, b, c] 2 = a := by
  refine ⟨?_, ?_, ?_⟩ <;> unfold edE
  · rw [nx_next (by simp)]; rfl
  · rw [nx_next (by simp)]; rfl
  · rw [nx_last (by simp)]; rfl
theorem tri_nz {a b c : Pt} (h : chkE [a, b, c] = 0) : tw a b c ≠ 0 ∧ Vp a ∧ Vp b ∧ Vp c := by
  have hp := polyE_zero (chkE_zero h)
  have va : Vp a := hp.1 0 (by simp)
  have vb : Vp b := hp.1 1 (by simp)
  have vc : Vp c := hp.1 2 (by simp)
  refine ⟨fun hT => ?_, va, vb, vc⟩
  have hs : simpleB [a, b, c] = true := by
    unfold chkE at h
    rw [if_pos (chkE_zero h)] at h
    by_cases g : simpleB [a, b, c] = true
    · exact g
    · rw [if_neg g] at h; omega
  rw [simpleB_iff] at hs
  have q1 := hs 1 (by simp) 0 (by omega)
  have q2 := hs 2 (by simp) 0 (by omega)
  have q3 := hs 2 (by simp) 1 (by omega)
  unfold okP at q1 q2 q3
  rw [Bool.and_eq_true, Bool.not_eq_true', decide_eq_false_iff_not, decide_eq_true_eq] at q1 q2 q3
  obtain ⟨n1, m1⟩ := q1
  obtain ⟨n2, m2⟩ := q2
  obtain ⟨n3, m3⟩ := q3
  change ¬ a = b at n1
  change ¬ a = c at n2
  change ¬ b = c at n3
  rw [(ed3 a b c).1, (ed3 a b c).2.1] at m1
  change meetN a b b c = 1 at m1
  rw [(ed3 a b c).1, (ed3 a b c).2.2] at m2
  change meetN a b c a = 1 at m2
  have r1 := (meet_next va.nr vb.nr vc.nr n1 n3).1 m1
  have r2 := (meet_last va.nr vb.nr vc.nr n1 (fun e => n2 e.symm)).1 m2
  have e1 : tw b c a = 0 := by rw [← hT]; unfold tw; grind
  have e2 : tw c a b = 0 := by rw [← hT]; unfold tw; grind
  have k1 := on_key va.nr vb.nr vc.nr n1 hT
  have k2 := on_key vb.nr vc.nr va.nr n3 e1
  have k3 := on_key vc.nr va.nr vb.nr (fun e => n2 e.symm) e2
  have o1 : ¬ inBx a b c := fun g => by have := onB_iff.2 ⟨hT, g⟩; rw [r1.1] at this; cases this
  have o2 : ¬ inBx b c a := fun g => by have := onB_iff.2 ⟨e1, g⟩; rw [r1.2] at this; cases this
  have o3 : ¬ inBx c a b := fun g => by have := onB_iff.2 ⟨e2, g⟩; rw [r2.1] at this; cases this
  rw [k1] at o1
  rw [k2] at o2
  rw [k3] at o3
  omega
theorem tri_in {a b c p : Pt} (h : chkE [a, b, c] = 0) (hp : Vp p) : inN [a, b, c] p = triW (tw a b p) (tw b c p) (tw c a p) (tw a b c) := by
  rw [← tri_any (tri_nz h).1]
  unfold inN
  rw [if_pos ⟨chkE_zero h, hp⟩]
  have e : onAny [a, b, c] p = (onB a b p || (onB b c p || (onB c a p || false))) := by
    unfold onAny
    rw [show List.range [a, b, c].length = [0, 1, 2] from rfl]
    simp only [List.any_cons, List.any_nil, (ed3 a b c).1, (ed3 a b c).2.1, (ed3 a b c).2.2]
    rfl
  have e2 : parTo [a, b, c] p [a, b, c].length = (((false ^^ crB a b p) ^^ crB b c p) ^^ crB c a p) := by
    show (((false ^^ crB a (edE [a, b, c] 0) p) ^^ crB b (edE [a, b, c] 1) p) ^^ crB c (edE [a, b, c] 2) p) = _
    rw [(ed3 a b c).1, (ed3 a b c).2.1, (ed3 a b c).2.2]
  rw [e, e2, Bool.or_false, ← Bool.or_assoc, Bool.false_xor]
  rfl
theorem tri_twice {a b c : Pt} (h : chkE [a, b, c] = 0) : twN [a, b, c] = tw a b c := by
  unfold twN
  rw [if_pos (chkE_zero h)]
  have e : twTo [a, b, c] [a, b, c].length = 0 + edA a b + edA b c + edA c a := by
    show 0 + edA a (edE [a, b, c] 0) + edA b (edE [a, b, c] 1) + edA c (edE [a, b, c] 2) = _
    rw [(ed3 a b c).1, (ed3 a b c).2.1, (ed3 a b c).2.2]
  rw [e]
  unfold edA tw
  grind
end Go.Proofs
