import Derived.Test.YtoknjlodhohioaaT29
set_option linter.unusedVariables false
set_option linter.unusedSimpArgs false
namespace Go.Proofs
open Go.RowKit Go.Proofs.Mp Go.Proofs.Uf

theorem wpAnyH_share {P : Program} {md : Region.Mode} {ops : Array Oper} {Q : Exit → Act → World → Prop} {S : World → Prop} {f0 : Nat} {l0 : Array Bool} {a0 : Act} {w0 : World} {C : Type} (T : (Nat → Array Bool → Act → World → Prop) → Nat → Array Bool → C → Prop) {x : Nat} {y : Array Bool} {z : C} (main : T (wpAnyH P md ops Q S) x y z → wpAnyH P md ops Q S f0 l0 a0 w0) (tail : T (wpAnyH P md ops Q S) x y z) : wpAnyH P md ops Q S f0 l0 a0 w0 := main tail
theorem wpAnyH_cast {P : Program} {md : Region.Mode} {ops : Array Oper} {Q : Exit → Act → World → Prop} {S : World → Prop} {f f' : Nat} {l l' : Array Bool} {a : Act} {w : World} (hf : f = f') (hl : l = l') (h : wpAnyH P md ops Q S f' l' a w) : wpAnyH P md ops Q S f l a w := by
  subst hf; subst hl; exact h

/-- the value v is a slice that reads as xs: pairs, boxes -/
def SlP (w : World) (v : Value) (xs : List (Int × Int)) : Prop := ∃ A c, v = .slice A xs.length c ∧ Rd 2 encR w A xs
def SlB (w : World) (v : Value) (xs : List Cand) : Prop := ∃ A c, v = .slice A xs.length c ∧ Rd 4 encB w A xs
theorem SlP.below {w w' : World} {v : Value} {xs : List (Int × Int)} (h : SlP w v xs) (hb : Below w.heap.size w w') : SlP w' v xs := by
  obtain ⟨A, c, rfl, hR⟩ := h
  exact ⟨A, c, rfl, hR.below hb⟩
theorem SlB.below {w w' : World} {v : Value} {xs : List Cand} (h : SlB w v xs) (hb : Below w.heap.size w w') : SlB w' v xs := by
  obtain ⟨A, c, rfl, hR⟩ := h
  exact ⟨A, c, rfl, hR.below hb⟩
theorem SlC.below {w w' : World} {v : Value} {xs : List Cand} (h : SlC w v xs) (hb : Below w.heap.size w w') : SlC w' v xs := by
  obtain ⟨A, c, rfl, hc, hR⟩ := h
  exact ⟨A, c, rfl, hc, hR.below hb⟩
theorem SlP.alloc {w : World} {v : Value} {xs : List (Int × Int)} (h : SlP w v xs) (o : Obj) : SlP (w.alloc o) v xs := h.below ((Below.refl _ _).alloc (Nat.le_refl _) o)
theorem SlB.alloc {w : World} {v : Value} {xs : List Cand} (h : SlB w v xs) (o : Obj) : SlB (w.alloc o) v xs := h.below ((Below.refl _ _).alloc (Nat.le_refl _) o)
theorem SlC.alloc {w : World} {v : Value} {xs : List Cand} (h : SlC w v xs) (o : Obj) : SlC (w.alloc o) v xs := h.below ((Below.refl _ _).alloc (Nat.le_refl _) o)
theorem GrpS.alloc {w : World} {v : Value} {gs : List (List Int)} (h : GrpS w v gs) (o : Obj) : GrpS (w.alloc o) v gs := h.below ((Below.refl _ _).alloc (Nat.le_refl _) o)

section
variable {w : World} {u v : Value}
theorem k_pairs {l : List Cand} (h : SlC w v l) (h1 : l.length ≤ 1000) : Calls Try.prog 13 #[v] w (fun e w' => ∃ v', e = .returned v' ∧ SlP w' v' (prs l) ∧ Below w.heap.size w w') := by
  obtain ⟨A, c, rfl, hc, hR⟩ := h
  exact (ov_pairs A c l w h1 hR).mono fun e w' ⟨A', c', he, hR', hb⟩ => ⟨_, he, ⟨A', c', rfl, hR'⟩, hb⟩
theorem k_rpairs {l : List Cand} (h : SlC w v l) (h1 : l.length ≤ 1000) : Calls Try.prog 14 #[v] w (fun e w' => ∃ v', e = .returned v' ∧ SlP w' v' (prs l) ∧ Below w.heap.size w w') := by
  obtain ⟨A, c, rfl, hc, hR⟩ := h
  exact (ref_pairs A c l w h1 hR).mono fun e w' ⟨A', c', he, hR', hb⟩ => ⟨_, he, ⟨A', c', rfl, hR'⟩, hb⟩
theorem k_samep {b : Bool} {xs ys : List (Int × Int)} (h : SlP w u xs) (g : SlP w v ys) (h1 : xs.length ≤ 1000000000) (h2 : ys.length ≤ 1000000000) (hb : decide (xs = ys) = b) : Calls Try.prog 12 #[u, v] w (RetV w (.bool b)) := by
  subst hb
  obtain ⟨A, c, rfl, hR⟩ := h
  obtain ⟨B, d, rfl, hS⟩ := g
  exact same_pairs A B c d xs ys w h1 h2 hR hS
theorem k_clusters {l : List Cand} (h : SlC w v l) (h1 : l.length ≤ 1000) (hwf : wfs (feats l)) : Calls Try.prog 17 #[v] w (fun e w' => ∃ v', e = .returned v' ∧ GrpS w' v' (clS (Ed l) (setL (feats l))) ∧ Below w.heap.size w w') := by
  obtain ⟨A, c, rfl, hc, hR⟩ := h
  exact (clusters_any A c l w hc h1 hR hwf).mono fun e w' ⟨v', he, hN, hb⟩ => ⟨v', he, hN.grpS, hb⟩
theorem k_rclusters {l : List Cand} (h : SlC w v l) (h1 : l.length ≤ 1000) : Calls Try.prog 15 #[v] w (fun e w' => ∃ v', e = .returned v' ∧ GrpS w' v' (clS (Ed l) (setL (feats l))) ∧ Below w.heap.size w w') := by
  obtain ⟨A, c, rfl, hc, hR⟩ := h
  exact ref_clusters A c l w h1 hR
theorem k_sameg {b : Bool} {xs ys : List (List Int)} (h : GrpS w u xs) (g : GrpS w v ys) (h1 : xs.length ≤ 1000000) (h2 : ys.length ≤ 1000000) (h3 : ∀ g ∈ xs, g.length ≤ 1000000) (h4 : ∀ g ∈ ys, g.length ≤ 1000000) (hb : decide (xs = ys) = b) : Calls Try.prog 16 #[u, v] w (RetV w (.bool b)) := by
  subst hb
  exact same_groups u v xs ys w h1 h2 h3 h4 h g
theorem k_free {l bs : List Cand} (h : SlC w u l) (g : SlB w v bs) (h1 : l.length ≤ 1000000) (h2 : bs.length ≤ 1000000) : Calls Try.prog 22 #[u, v] w (fun e w' => ∃ v', e = .returned v' ∧ SlC w' v' (freeS l bs) ∧ Below w.heap.size w w') := by
  obtain ⟨A, c, rfl, hc, hR⟩ := h
  obtain ⟨B, d, rfl, hS⟩ := g
  exact ov_free A B c d l bs w h1 h2 hR hS
theorem k_rfree {l bs : List Cand} (h : SlC w u l) (g : SlB w v bs) (h1 : l.length ≤ 1000000) (h2 : bs.length ≤ 1000000) : Calls Try.prog 23 #[u, v] w (fun e w' => ∃ v', e = .returned v' ∧ SlC w' v' (freeS l bs) ∧ Below w.heap.size w w') := by
  obtain ⟨A, c, rfl, hc, hR⟩ := h
  obtain ⟨B, d, rfl, hS⟩ := g
  exact ref_free A B c d l bs w h1 h2 hR hS
theorem k_samec {b : Bool} {xs ys : List Cand} (h : SlC w u xs) (g : SlC w v ys) (h1 : xs.length ≤ 1000000000) (h2 : ys.length ≤ 1000000000) (hb : decide (xs = ys) = b) : Calls Try.prog 21 #[u, v] w (RetV w (.bool b)) := by
  subst hb
  obtain ⟨A, c, rfl, _, hR⟩ := h
  obtain ⟨B, d, rfl, _, hS⟩ := g
  exact same_cands A B c d xs ys w h1 h2 hR hS
theorem k_hit {b : Bool} {x y : Cand} (hb : hitB x y = b) : Calls Try.prog 9 #[aggC x, aggC y] w (RetV w (.bool b)) := by subst hb; exact ov_hit x y w
theorem k_rhit {b : Bool} {x y : Cand} (hb : hitB x y = b) : Calls Try.prog 10 #[aggC x, aggC y] w (RetV w (.bool b)) := by subst hb; exact ref_hit x y w
end

/-- the example of the chapter -/
def exA : Cand := ⟨1, 0, 0, 4, 4, 0, 0, 0⟩
def exB : Cand := ⟨2, 3, 3, 8, 8, 0, 0, 0⟩
def exC : Cand := ⟨3, 8, 0, 9, 9, 0, 0, 0⟩
def exL : List Cand := [exA, exB, exC]
def exT : Cand := ⟨0, 0, 0, 1, 1, 0, 0, 0⟩
theorem ex_hits : hitB exA exB = true ∧ hitB exC exC = true ∧ hitB exB exC = false := by decide
theorem ex_prs : prs exL = [((0 : Int), (1 : Int))] := by decide
theorem ex_free : freeS exL [exT] = [exB, exC] := by decide
theorem ex_feats : setL (feats exL) = [1, 2, 3] := setL_lit _ _ (by decide) (fun x => by simp [feats, exL, exA, exB, exC])
theorem ex_edge {x y : Int} (h : Ed exL x y) : (x = 3 ↔ y = 3) := by
  obtain ⟨i, j, hi, hj, hh, rfl, rfl⟩ := h
  have hi' : i < 3 := hi
  have hj' : j < 3 := hj
  have : (i = 0 ∨ i = 1 ∨ i = 2) ∧ (j = 0 ∨ j = 1 ∨ j = 2) := by omega
  obtain ⟨rfl | rfl | rfl, rfl | rfl | rfl⟩ := this <;> revert hh <;> decide
theorem ex_conn {x y : Int} (h : Conn (Ed exL) x y) : (x = 3 ↔ y = 3) := by
  induction h with
  | refl _ => exact Iff.rfl
  | edge e _ ih => exact (ex_edge e).trans ih
  | back e _ ih => exact (ex_edge e).symm.trans ih
theorem ex_12 : Conn (Ed exL) 1 2 := .edge ⟨0, 1, by decide, by decide, by decide, by decide, by decide⟩ (.refl _)
theorem ex_21 : Conn (Ed exL) 2 1 := .back ⟨0, 1, by decide, by decide, by decide, by decide, by decide⟩ (.refl _)
theorem ex_13 : ¬ Conn (Ed exL) 1 3 := fun h => by have := ex_conn h; revert this; decide
theorem ex_23 : ¬ Conn (Ed exL) 2 3 := fun h => by have := ex_conn h; revert this; decide
theorem ex_31 : ¬ Conn (Ed exL) 3 1 := fun h => by have := ex_conn h; revert this; decide
theorem ex_32 : ¬ Conn (Ed exL) 3 2 := fun h => by have := ex_conn h; revert this; decide
theorem ex_cl : clS (Ed exL) (setL (feats exL)) = [[1, 2], [3]] := by
  rw [ex_feats]
  have a11 : dec (Conn (Ed exL) 1 1) = true := (dec_iff _).2 (.refl _)
  have a33 : dec (Conn (Ed exL) 3 3) = true := (dec_iff _).2 (.refl _)
  have a12 : dec (Conn (Ed exL) 1 2) = true := (dec_iff _).2 ex_12
  have a13 : dec (Conn (Ed exL) 1 3) = false := dec_eq (by simp [ex_13])
  have a31 : dec (Conn (Ed exL) 3 1) = false := dec_eq (by simp [ex_31])
  have a32 : dec (Conn (Ed exL) 3 2) = false := dec_eq (by simp [ex_32])
  have r1 : dec (∀ y ∈ [(1 : Int), 2, 3], Conn (Ed exL) 1 y → 1 ≤ y) = true := (dec_iff _).2 (by simp)
  have r2 : dec (∀ y ∈ [(1 : Int), 2, 3], Conn (Ed exL) 2 y → 2 ≤ y) = false := dec_eq (by simp [ex_21])
  have r3 : dec (∀ y ∈ [(1 : Int), 2, 3], Conn (Ed exL) 3 y → 3 ≤ y) = true := (dec_iff _).2 (by simp [ex_31, ex_32])
  unfold clS
  simp only [List.filter_cons, List.filter_nil, r1, r2, r3, List.map_cons, List.map_nil, a11, a12, a13, a31, a32, a33, if_true, Bool.false_eq_true, if_false]
theorem ex_wfs : wfs (feats exL) := by
  intro x hx
  simp only [feats, exL, exA, exB, exC, List.map_cons, List.map_nil, List.mem_cons, List.not_mem_nil, or_false] at hx
  rcases hx with rfl | rfl | rfl <;> rfl
end Go.Proofs
