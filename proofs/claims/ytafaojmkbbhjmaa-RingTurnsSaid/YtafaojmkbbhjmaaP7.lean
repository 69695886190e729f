/- Plain: a polygon turned, and a polygon reversed. -/
import Derived.Test.YtafaojmkbbhjmaaP6
import Derived.Test.YtafaojmkbbhjmaaP4
set_option linter.unusedVariables false
set_option linter.unusedSimpArgs false
namespace Go.Proofs
open Go.RowKit Go.Proofs.Mp

abbrev Ed := Pt × Pt
def swE (e : Ed) : Ed := (e.2, e.1)
/-- the edges -/
def EL (l : List Pt) : List Ed := (List.range l.length).map fun i => (l[i]!, edE l i)
def ELto (l : List Pt) (k : Nat) : List Ed := (List.range k).map fun i => (l[i]!, edE l i)
theorem ELto_succ (l : List Pt) (k : Nat) : ELto l (k + 1) = ELto l k ++ [(l[k]!, edE l k)] := by unfold ELto; rw [List.range_succ, List.map_append]; rfl
/-- the steps of a way -/
def pe (xs : List Pt) : List Ed := xs.zip xs.tail
theorem EL_pe (l : List Pt) (h : 0 < l.length) : EL l = pe (l ++ [l[0]!]) := by
  unfold EL pe edE
  apply List.ext_getElem
  · simp
  · intro i h1 h2
    have hi : i < l.length := by simpa using h1
    rw [List.getElem_map, List.getElem_range, List.getElem_zip, List.getElem_tail]
    have e1 : l[i]! = (l ++ [l[0]!])[i]'(by simp; omega) := by rw [List.getElem_append_left hi, getElem!_pos l i hi]
    have e2 : l[nx l.length i]! = (l ++ [l[0]!])[i + 1]'(by simp; omega) := by
      rcases Nat.lt_or_ge (i + 1) l.length with g | g
      · rw [nx_next g, List.getElem_append_left g, getElem!_pos l (i + 1) g]
      · rw [nx_last (by omega), List.getElem_append_right g]
        simp
    rw [e1, e2]
theorem pe_cons (a b : Pt) (r : List Pt) : pe (a :: b :: r) = (a, b) :: pe (b :: r) := rfl
theorem pe_snoc : ∀ (xs : List Pt) (x y : Pt), pe (xs ++ [x] ++ [y]) = pe (xs ++ [x]) ++ [(x, y)]
  | [], x, y => rfl
  | [a], x, y => rfl
  | a :: b :: r, x, y => by
    have := pe_snoc (b :: r) x y
    show pe (a :: b :: (r ++ [x] ++ [y])) = pe (a :: b :: (r ++ [x])) ++ [(x, y)]
    rw [pe_cons, pe_cons]
    change pe (b :: (r ++ [x] ++ [y])) = pe (b :: (r ++ [x])) ++ [(x, y)] at this
    rw [this]
    rfl
theorem pe_rev : ∀ xs : List Pt, pe xs.reverse = (pe xs).reverse.map swE
  | [] => rfl
  | [a] => rfl
  | a :: b :: r => by
    rw [List.reverse_cons, List.reverse_cons, pe_snoc, ← List.reverse_cons, pe_rev (b :: r), pe_cons, List.reverse_cons, List.map_append]
    rfl
theorem EL_rot1 (a : Pt) (t : List Pt) : (EL (t ++ [a])).Perm (EL (a :: t)) := by
  rw [EL_pe _ (by simp), EL_pe (a :: t) (by simp)]
  rcases t with _ | ⟨b, t⟩
  · exact List.Perm.refl _
  · show (pe (b :: t ++ [a] ++ [b])).Perm (pe (a :: b :: t ++ [a]))
    rw [pe_snoc]
    show (pe (b :: t ++ [a]) ++ [(a, b)]).Perm ((a, b) :: pe (b :: t ++ [a]))
    exact List.perm_append_comm
theorem EL_rot : ∀ (u v : List Pt), (EL (v ++ u)).Perm (EL (u ++ v))
  | [], v => by rw [List.append_nil]; exact List.Perm.refl _
  | a :: u, v => by
    have h1 := EL_rot u (v ++ [a])
    have h2 := EL_rot1 a (u ++ v)
    have e1 : v ++ a :: u = v ++ [a] ++ u := by simp
    have e2 : u ++ (v ++ [a]) = u ++ v ++ [a] := by simp
    rw [e1]
    rw [e2] at h1
    exact h1.trans h2
theorem EL_rev (l : List Pt) : (EL l.reverse).Perm ((EL l).map swE) := by
  rcases l with _ | ⟨a, t⟩
  · exact List.Perm.refl _
  · rw [List.reverse_cons]
    refine (EL_rot1 a t.reverse).trans ?_
    rw [EL_pe _ (by simp), EL_pe (a :: t) (by simp)]
    show (pe (a :: t.reverse ++ [a])).Perm ((pe (a :: t ++ [a])).map swE)
    have e : a :: t.reverse ++ [a] = (a :: t ++ [a]).reverse := by simp
    rw [e, pe_rev]
    exact (List.reverse_perm _).map _
/-- the same points, and the same edges or the same edges turned round -/
def Same (l' l : List Pt) : Prop := l'.Perm l ∧ ((EL l').Perm (EL l) ∨ (EL l').Perm ((EL l).map swE))
theorem same_rot (l : List Pt) (n : Nat) : Same (l.drop n ++ l.take n) l := by
  have h := EL_rot (l.take n) (l.drop n)
  rw [List.take_append_drop] at h
  have h2 : (l.drop n ++ l.take n).Perm (l.take n ++ l.drop n) := List.perm_append_comm
  rw [List.take_append_drop] at h2
  exact ⟨h2, .inl h⟩
theorem same_rev (l : List Pt) : Same l.reverse l := ⟨List.reverse_perm l, .inr (EL_rev l)⟩
theorem Same.len {l' l : List Pt} (h : Same l' l) : l'.length = l.length := h.1.length_eq
theorem Same.count {l' l : List Pt} (h : Same l' l) {q : Ed → Bool} (hq : ∀ e, q (swE e) = q e) : (EL l').countP q = (EL l).countP q := by
  rcases h.2 with g | g
  · exact g.countP_eq q
  · rw [g.countP_eq q, List.countP_map]
    congr 1
    funext e
    exact hq e
theorem onAny_count (l : List Pt) (p : Pt) : onAny l p = decide (0 < (EL l).countP fun e => onB e.1 e.2 p) := by
  rw [Bool.eq_iff_iff, decide_eq_true_eq, List.countP_pos_iff]
  unfold onAny EL
  rw [List.any_eq_true]
  constructor
  · rintro ⟨i, hi, h⟩
    exact ⟨_, List.mem_map.2 ⟨i, hi, rfl⟩, h⟩
  · rintro ⟨e, he, h⟩
    obtain ⟨i, hi, rfl⟩ := List.mem_map.1 he
    exact ⟨i, hi, h⟩
theorem xor_count : ∀ (P Q : Bool) (C : Nat), (P = true ↔ C % 2 = 1) → ((P ^^ Q) = true ↔ (C + if Q = true then 1 else 0) % 2 = 1) := by
  intro P Q C h
  cases P <;> cases Q <;> simp only [Bool.false_xor, Bool.true_xor, Bool.not_true, Bool.not_false, Bool.false_eq_true, false_iff, true_iff, if_true, if_false] at h ⊢ <;> omega
theorem parTo_count (l : List Pt) (p : Pt) : ∀ k, parTo l p k = true ↔ (ELto l k).countP (fun e => crB e.1 e.2 p) % 2 = 1
  | 0 => by simp [parTo, ELto]
  | k + 1 => by
    have h := parTo_count l p k
    unfold parTo
    rw [ELto_succ, List.countP_append, List.countP_singleton]
    exact xor_count _ _ _ h
theorem twTo_sum (l : List Pt) : ∀ k, twTo l k = ((ELto l k).map fun e => edA e.1 e.2).sum
  | 0 => rfl
  | k + 1 => by
    unfold twTo
    rw [twTo_sum l k, ELto_succ, List.map_append, List.sum_append]
    simp
theorem Same.on {l' l : List Pt} (h : Same l' l) (p : Pt) : onAny l' p = onAny l p := by
  rw [onAny_count, onAny_count, h.count (q := fun e => onB e.1 e.2 p) (fun e => onB_swap e.1 e.2 p)]
theorem Same.par {l' l : List Pt} (h : Same l' l) (p : Pt) : parTo l' p l'.length = parTo l p l.length := by
  rw [Bool.eq_iff_iff, parTo_count, parTo_count]
  have := h.count (q := fun e => crB e.1 e.2 p) (fun e => crB_swap e.1 e.2 p)
  change (ELto l' l'.length).countP _ = (ELto l l.length).countP _ at this
  rw [this]
theorem Same.row {l' l : List Pt} (h : Same l' l) (h0 : 0 < l.length) (y : Int) : rowL l' y = rowL l y := by
  refine Vld.unique (rowL_vld l' y) (rowL_vld l y) fun x => ?_
  rw [row_has (by rw [h.len]; exact h0), row_has h0, h.on, h.par]
theorem allVp_iff (l : List Pt) : allVp l ↔ ∀ p ∈ l, Vp p := by
  unfold allVp
  constructor
  · intro h p hp
    obtain ⟨i, hi, rfl⟩ := List.mem_iff_getElem.1 hp
    have := h i hi
    rw [getElem!_pos l i hi] at this
    exact this
  · intro h i hi
    rw [getElem!_pos l i hi]
    exact h _ (List.getElem_mem _)
theorem Same.poly {l' l : List Pt} (h : Same l' l) : polyE l' = polyE l := by
  have hv : allVp l' ↔ allVp l := by
    rw [allVp_iff, allVp_iff]
    exact ⟨fun g p hp => g p (h.1.mem_iff.2 hp), fun g p hp => g p (h.1.mem_iff.1 hp)⟩
  unfold polyE
  rw [h.len]
  by_cases g : allVp l
  · rw [if_pos g, if_pos (hv.2 g)]
  · rw [if_neg g, if_neg (fun k => g (hv.1 k))]
theorem Same.inn {l' l : List Pt} (h : Same l' l) (p : Pt) : inN l' p = inN l p := by
  unfold inN
  rw [h.poly, h.on, h.par]
end Go.Proofs
