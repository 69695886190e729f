/- The plain part of the groups' law: groups divide the features. -/
import Derived.Test.YtoknjlodhohioaaT35
set_option linter.unusedVariables false
set_option linter.unusedSimpArgs false
namespace Go.Proofs
open Go.RowKit Go.Proofs.Mp Go.Proofs.Uf

/-- where a feature stands in the groups: the groups' numbers, as often as it stands there -/
def hitsRow (g : List Int) (f : Int) (i : Nat) : List Int := (g.filter fun x => decide (x = f)).map fun _ => (i : Int)
def hitsTo (gs : List (List Int)) (f : Int) (n : Nat) : List Int := (List.range n).flatMap fun i => hitsRow gs[i]! f i
def homeOf : List Int → Int
  | [] => -1
  | [a] => a
  | _ => -2
def homeV (gs : List (List Int)) (f : Int) : Int := homeOf (hitsTo gs f gs.length)
theorem hitsTo_succ (gs : List (List Int)) (f : Int) (n : Nat) : hitsTo gs f (n + 1) = hitsTo gs f n ++ hitsRow gs[n]! f n := by simp [hitsTo, List.range_succ]
theorem hitsTo_more (gs : List (List Int)) (f : Int) {m n : Nat} (h : m ≤ n) : ∃ r, hitsTo gs f n = hitsTo gs f m ++ r := by
  induction n with
  | zero => obtain rfl : m = 0 := by omega
            exact ⟨[], by simp⟩
  | succ n ih =>
    by_cases e : m = n + 1
    · subst e; exact ⟨[], by simp⟩
    · obtain ⟨r, hr⟩ := ih (by omega)
      exact ⟨r ++ hitsRow gs[n]! f n, by rw [hitsTo_succ, hr, List.append_assoc]⟩
theorem hitsRow_take {g : List Int} {f : Int} {i k : Nat} (h : k < g.length) : hitsRow (g.take (k + 1)) f i = hitsRow (g.take k) f i ++ (if g[k]! = f then [(i : Int)] else []) := by
  unfold hitsRow
  rw [List.take_succ_eq_append_getElem h, List.filter_append, List.map_append, getElem!_pos g k h]
  congr 1
  by_cases e : g[k] = f <;> simp [e]
theorem hitsRow_more (g : List Int) (f : Int) (i k : Nat) : ∃ r, hitsRow g f i = hitsRow (g.take k) f i ++ r := by
  refine ⟨hitsRow (g.drop k) f i, ?_⟩
  unfold hitsRow
  rw [← List.map_append, ← List.filter_append, List.take_append_drop]
theorem hits_more {gs : List (List Int)} {f : Int} {i k : Nat} (hi : i < gs.length) : ∃ r, hitsTo gs f gs.length = hitsTo gs f i ++ hitsRow (gs[i]!.take k) f i ++ r := by
  obtain ⟨r, hr⟩ := hitsTo_more gs f (show i + 1 ≤ gs.length from hi)
  obtain ⟨r', hr'⟩ := hitsRow_more gs[i]! f i k
  exact ⟨r' ++ r, by rw [hr, hitsTo_succ, hr']; simp only [List.append_assoc]⟩
theorem homeOf_two {a b : Int} (t r : List Int) : homeOf ([a] ++ ([b] ++ t) ++ r) = -2 := by simp [homeOf]

/-- what home has found: nothing, or one group -/
def AtV (hs : List Int) (v : Value) : Prop := (hs = [] ∧ v = .int .i64 (-1)) ∨ ∃ a : Int, 0 ≤ a ∧ hs = [a] ∧ v = .int .i64 a
theorem AtV.home {hs : List Int} {v : Value} (h : AtV hs v) : v = .int .i64 (homeOf hs) := by
  rcases h with ⟨rfl, rfl⟩ | ⟨a, _, rfl, rfl⟩ <;> rfl

section
variable {l : List Cand}
/-- the first features of the groups -/
noncomputable def reps (l : List Cand) : List Int := (setL (feats l)).filter fun x => dec (∀ y ∈ setL (feats l), Conn (Ed l) x y → x ≤ y)
noncomputable def grpOf (l : List Cand) (r : Int) : List Int := (setL (feats l)).filter fun x => dec (Conn (Ed l) r x)
noncomputable def cls (l : List Cand) : List (List Int) := clS (Ed l) (setL (feats l))
theorem cls_eq (l : List Cand) : cls l = (reps l).map (grpOf l) := rfl
theorem cls_len (l : List Cand) : (cls l).length = (reps l).length := by rw [cls_eq, List.length_map]
theorem cls_get {i : Nat} (h : i < (reps l).length) : (cls l)[i]! = grpOf l (reps l)[i]! := by
  rw [getElem!_pos (cls l) i (by rw [cls_len]; exact h), getElem!_pos (reps l) i h]
  simp [cls_eq]
theorem mem_reps {r : Int} : r ∈ reps l ↔ r ∈ setL (feats l) ∧ ∀ y ∈ setL (feats l), Conn (Ed l) r y → r ≤ y := by
  unfold reps
  rw [List.mem_filter, dec_iff]
theorem mem_grp {r x : Int} : x ∈ grpOf l r ↔ x ∈ setL (feats l) ∧ Conn (Ed l) r x := by
  unfold grpOf
  rw [List.mem_filter, dec_iff]
theorem asc_filter {xs : List Int} (h : Asc xs) (p : Int → Bool) : Asc (xs.filter p) := List.Pairwise.filter p h
theorem reps_asc (l : List Cand) : Asc (reps l) := asc_filter (setL_asc _) _
theorem grp_asc (l : List Cand) (r : Int) : Asc (grpOf l r) := asc_filter (setL_asc _) _
theorem grp_head {r : Int} (hr : r ∈ reps l) : ∃ t, grpOf l r = r :: t := by
  obtain ⟨h1, h2⟩ := mem_reps.1 hr
  have hm : r ∈ grpOf l r := mem_grp.2 ⟨h1, .refl _⟩
  rcases hg : grpOf l r with _ | ⟨h, t⟩
  · rw [hg] at hm; cases hm
  · have hh : h ∈ grpOf l r := by rw [hg]; exact List.mem_cons_self ..
    obtain ⟨h3, h4⟩ := mem_grp.1 hh
    have h5 := h2 h h3 h4
    have ha := grp_asc l r
    rw [hg] at ha hm
    rcases List.mem_cons.1 hm with e | e
    · exact ⟨t, by rw [e]⟩
    · have := (List.pairwise_cons.1 ha).1 r e
      omega
theorem rep_of {x : Int} (hx : x ∈ setL (feats l)) : ∃ r ∈ reps l, Conn (Ed l) r x := by
  have hm : x ∈ grpOf l x := mem_grp.2 ⟨hx, .refl _⟩
  rcases hg : grpOf l x with _ | ⟨h, t⟩
  · rw [hg] at hm; cases hm
  · have hh : h ∈ grpOf l x := by rw [hg]; exact List.mem_cons_self ..
    obtain ⟨h3, h4⟩ := mem_grp.1 hh
    refine ⟨h, mem_reps.2 ⟨h3, fun y hy hc => ?_⟩, h4.symm⟩
    have hy' : y ∈ grpOf l x := mem_grp.2 ⟨hy, h4.trans hc⟩
    have ha := grp_asc l x
    rw [hg] at ha hy'
    rcases List.mem_cons.1 hy' with e | e
    · omega
    · have := (List.pairwise_cons.1 ha).1 y e
      omega
theorem rep_unique {r r' x : Int} (hr : r ∈ reps l) (hr' : r' ∈ reps l) (h : Conn (Ed l) r x) (h' : Conn (Ed l) r' x) : r = r' := by
  obtain ⟨h1, h2⟩ := mem_reps.1 hr
  obtain ⟨h3, h4⟩ := mem_reps.1 hr'
  have := h2 r' h3 (h.trans h'.symm)
  have := h4 r h1 (h'.trans h.symm)
  omega
/-- one and only one of the first features is linked to x -/
theorem one_rep {x : Int} (hx : x ∈ setL (feats l)) : ((reps l).filter fun r => dec (Conn (Ed l) r x)).length = 1 := by
  obtain ⟨r, hr, hc⟩ := rep_of hx
  have : ((reps l).filter fun r => dec (Conn (Ed l) r x)) = [r] := Asc.unique (asc_filter (reps_asc l) _) (by simp [Asc]) fun y => by
    rw [List.mem_filter, dec_iff, List.mem_singleton]
    exact ⟨fun ⟨h1, h2⟩ => rep_unique h1 hr h2 hc, fun e => e ▸ ⟨hr, hc⟩⟩
  rw [this]; rfl
def sumLen (gs : List (List Int)) : Nat := (gs.map List.length).sum
theorem count_two (c : Int → Int → Bool) (rs : List Int) : ∀ xs : List Int, ((rs.map fun r => (xs.filter (c r)).length)).sum = (xs.map fun x => (rs.filter fun r => c r x).length).sum
  | [] => by
    simp only [List.filter_nil, List.length_nil, List.map_nil, List.sum_nil]
    induction rs with
    | nil => rfl
    | cons r rs ih => simp [ih]
  | x :: xs => by
    rw [List.map_cons, List.sum_cons, ← count_two c rs xs]
    induction rs with
    | nil => rfl
    | cons r rs ih =>
      simp only [List.map_cons, List.sum_cons, List.filter_cons] at ih ⊢
      rw [ih]
      rcases c r x with _ | _ <;> simp <;> omega
theorem sum_cls (l : List Cand) : sumLen (cls l) = (setL (feats l)).length := by
  have h1 := count_two (fun r x => dec (Conn (Ed l) r x)) (reps l) (setL (feats l))
  have h2 : ((setL (feats l)).map fun x => ((reps l).filter fun r => dec (Conn (Ed l) r x)).length) = (setL (feats l)).map fun _ => 1 := List.map_congr_left fun x hx => one_rep hx
  have h3 : ∀ xs : List Int, (xs.map fun _ => 1).sum = xs.length := fun xs => by induction xs with
    | nil => rfl
    | cons x xs ih => simp only [List.map_cons, List.sum_cons, List.length_cons, ih]; omega
  rw [h2, h3] at h1
  unfold sumLen
  rw [cls_eq, List.map_map, ← h1]
  rfl
theorem sumLen_take {gs : List (List Int)} {k : Nat} (h : k < gs.length) : sumLen (gs.take (k + 1)) = sumLen (gs.take k) + gs[k]!.length := by
  unfold sumLen
  rw [List.take_succ_eq_append_getElem h, List.map_append, List.sum_append, getElem!_pos gs k h]
  simp
theorem hitsRow_grp {x : Int} (hx : x ∈ setL (feats l)) (r : Int) (i : Nat) : hitsRow (grpOf l r) x i = if dec (Conn (Ed l) r x) = true then [(i : Int)] else [] := by
  unfold hitsRow
  have hm : ∀ y, y ∈ (grpOf l r).filter (fun y => decide (y = x)) ↔ y = x ∧ Conn (Ed l) r x := fun y => by
    rw [List.mem_filter, mem_grp, decide_eq_true_iff]
    exact ⟨fun ⟨⟨_, h⟩, e⟩ => ⟨e, e ▸ h⟩, fun ⟨e, h⟩ => ⟨⟨e ▸ hx, e ▸ h⟩, e⟩⟩
  by_cases hc : Conn (Ed l) r x
  · rw [if_pos ((dec_iff _).2 hc)]
    have : (grpOf l r).filter (fun y => decide (y = x)) = [x] := Asc.unique (asc_filter (grp_asc l r) _) (by simp [Asc]) fun y => by
      rw [hm, List.mem_singleton]
      exact ⟨fun h => h.1, fun h => ⟨h, hc⟩⟩
    rw [this]; rfl
  · rw [if_neg (by rw [dec_iff]; exact hc)]
    have : (grpOf l r).filter (fun y => decide (y = x)) = [] := by
      rw [List.eq_nil_iff_forall_not_mem]
      intro y hy
      exact hc ((hm y).1 hy).2
    rw [this]; rfl
theorem hits_cls {x : Int} (hx : x ∈ setL (feats l)) : hitsTo (cls l) x (cls l).length = ((List.range (reps l).length).filter fun i => dec (Conn (Ed l) (reps l)[i]! x)).map fun (i : Nat) => (i : Int) := by
  rw [cls_len]
  have key : ∀ n, n ≤ (reps l).length → hitsTo (cls l) x n = ((List.range n).filter fun i => dec (Conn (Ed l) (reps l)[i]! x)).map fun (i : Nat) => (i : Int) := by
    intro n
    induction n with
    | zero => intro _; rfl
    | succ n ih =>
      intro hn
      rw [hitsTo_succ, ih (by omega), cls_get (by omega), hitsRow_grp hx, List.range_succ, List.filter_append, List.map_append]
      congr 1
      rw [List.filter_cons]
      split <;> rfl
  exact key _ (Nat.le_refl _)
theorem home_conn {x y : Int} (hx : x ∈ setL (feats l)) (hy : y ∈ setL (feats l)) (h : Conn (Ed l) x y) : homeV (cls l) x = homeV (cls l) y := by
  unfold homeV
  rw [hits_cls hx, hits_cls hy]
  congr 2
  refine List.filter_congr fun i _ => dec_eq ?_
  rw [dec_iff]
  exact ⟨fun g => g.trans h.symm, fun g => g.trans h⟩
theorem home_pos {x : Int} (hx : x ∈ setL (feats l)) : 0 ≤ homeV (cls l) x := by
  obtain ⟨r, hr, hc⟩ := rep_of hx
  obtain ⟨i, hi, rfl⟩ := List.mem_iff_getElem.1 hr
  have key : ((List.range (reps l).length).filter fun i => dec (Conn (Ed l) (reps l)[i]! x)) = [i] := by
    have h1 : ∀ j, j ∈ (List.range (reps l).length).filter (fun i => dec (Conn (Ed l) (reps l)[i]! x)) ↔ j = i := fun j => by
      rw [List.mem_filter, dec_iff, List.mem_range]
      constructor
      · rintro ⟨hj, hcj⟩
        rw [getElem!_pos (reps l) j hj] at hcj
        have e := rep_unique (List.getElem_mem hj) (List.getElem_mem hi) hcj hc
        rcases Nat.lt_trichotomy j i with h | h | h
        · have := (List.pairwise_iff_getElem.1 (reps_asc l)) j i hj hi h
          omega
        · exact h
        · have := (List.pairwise_iff_getElem.1 (reps_asc l)) i j hi hj h
          omega
      · rintro rfl
        exact ⟨hi, by rw [getElem!_pos (reps l) j hi]; exact hc⟩
    have h2 : ((List.range (reps l).length).filter fun i => dec (Conn (Ed l) (reps l)[i]! x)).Pairwise (· < ·) := List.Pairwise.filter _ List.pairwise_lt_range
    rcases hq : (List.range (reps l).length).filter (fun i => dec (Conn (Ed l) (reps l)[i]! x)) with _ | ⟨a, _ | ⟨b, t⟩⟩
    · have := (h1 i).2 rfl
      rw [hq] at this; cases this
    · have := (h1 a).1 (by rw [hq]; exact List.mem_cons_self ..)
      rw [this]
    · rw [hq] at h2
      have e1 := (h1 a).1 (by rw [hq]; exact List.mem_cons_self ..)
      have e2 := (h1 b).1 (by rw [hq]; simp)
      have := (List.pairwise_cons.1 h2).1 b (List.mem_cons_self ..)
      omega
  unfold homeV
  rw [hits_cls hx, key]
  show (0 : Int) ≤ (i : Int)
  omega
end
end Go.Proofs
