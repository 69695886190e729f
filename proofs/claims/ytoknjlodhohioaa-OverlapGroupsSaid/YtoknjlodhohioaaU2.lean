/- What Pairs, Clusters and Free are, on lists. No program is named here. -/
import Derived.Test.YtoknjlodhohioaaU1
set_option linter.unusedVariables false
set_option linter.unusedSimpArgs false
namespace Go.Proofs.Uf

structure Cand where
  f : Int
  x0 : Int
  y0 : Int
  x1 : Int
  y1 : Int
  ax : Int
  ay : Int
  co : Int
  deriving Inhabited, DecidableEq

def overB (a b : Cand) : Bool := decide (max a.x0 b.x0 < min a.x1 b.x1) && decide (max a.y0 b.y0 < min a.y1 b.y1)
def hitB (a b : Cand) : Bool := decide (a.f = b.f) || overB a b
theorem hitB_comm (a b : Cand) : hitB a b = hitB b a := by
  unfold hitB overB
  rw [Int.max_comm a.x0, Int.min_comm a.x1, Int.max_comm a.y0, Int.min_comm a.y1]
  congr 1
  exact decide_eq_decide.2 eq_comm
theorem hitB_self (a : Cand) : hitB a a = true := by simp [hitB]

def feats (l : List Cand) : List Int := l.map (·.f)
theorem feats_get {l : List Cand} {i : Nat} (h : i < l.length) : l[i]!.f ∈ feats l := by
  unfold feats
  rw [List.mem_map]
  exact ⟨l[i]!, by simp [h], rfl⟩

def At (l : List Cand) (i j : Nat) (x y : Int) : Prop := i < l.length ∧ j < l.length ∧ hitB l[i]! l[j]! = true ∧ x = l[i]!.f ∧ y = l[j]!.f
/-- the features of two candidates that hit each other -/
def Ed (l : List Cand) (x y : Int) : Prop := ∃ i j, At l i j x y
/-- of the pairs before i, j -/
def EdTo (l : List Cand) (i j : Nat) (x y : Int) : Prop := ∃ i' j', j' < i' ∧ (i' < i ∨ (i' = i ∧ j' < j)) ∧ At l i' j' x y

theorem edTo_zero (l : List Cand) (x y : Int) : ¬ EdTo l 0 0 x y := by
  rintro ⟨i, j, _, h | ⟨_, h⟩, _⟩ <;> omega
theorem edTo_row (l : List Cand) (i : Nat) (x y : Int) : EdTo l (i + 1) 0 x y ↔ EdTo l i i x y := by
  constructor
  · rintro ⟨i', j', h1, h2, h3⟩
    exact ⟨i', j', h1, by omega, h3⟩
  · rintro ⟨i', j', h1, h2, h3⟩
    exact ⟨i', j', h1, by omega, h3⟩
theorem edTo_hit {l : List Cand} {i j : Nat} (hj : j < i) (hi : i < l.length) (h : hitB l[i]! l[j]! = true) (x y : Int) : more (EdTo l i j) l[i]!.f l[j]!.f x y ↔ EdTo l i (j + 1) x y := by
  constructor
  · rintro (⟨i', j', h1, h2, h3⟩ | ⟨rfl, rfl⟩)
    · exact ⟨i', j', h1, by omega, h3⟩
    · exact ⟨i, j, hj, by omega, hi, by omega, h, rfl, rfl⟩
  · rintro ⟨i', j', h1, h2, h3⟩
    by_cases e : i' = i ∧ j' = j
    · obtain ⟨rfl, rfl⟩ := e
      exact .inr ⟨h3.2.2.2.1, h3.2.2.2.2⟩
    · exact .inl ⟨i', j', h1, by omega, h3⟩
theorem edTo_miss {l : List Cand} {i j : Nat} (h : hitB l[i]! l[j]! = false) (x y : Int) : EdTo l i j x y ↔ EdTo l i (j + 1) x y := by
  constructor
  · rintro ⟨i', j', h1, h2, h3⟩
    exact ⟨i', j', h1, by omega, h3⟩
  · rintro ⟨i', j', h1, h2, h3⟩
    by_cases e : i' = i ∧ j' = j
    · obtain ⟨rfl, rfl⟩ := e
      rw [h3.2.2.1] at h
      cases h
    · exact ⟨i', j', h1, by omega, h3⟩
theorem conn_all (l : List Cand) (x y : Int) : Conn (EdTo l l.length 0) x y ↔ Conn (Ed l) x y := by
  constructor
  · exact fun h => h.mono fun x y ⟨i, j, _, _, h⟩ => .edge ⟨i, j, h⟩ (.refl _)
  · refine fun h => h.mono ?_
    rintro x y ⟨i, j, h1, h2, h3, rfl, rfl⟩
    rcases Nat.lt_trichotomy j i with h | rfl | h
    · exact .edge ⟨i, j, h, .inl h1, h1, h2, h3, rfl, rfl⟩ (.refl _)
    · exact .refl _
    · exact .back ⟨j, i, h, .inl h2, h2, h1, by rw [hitB_comm]; exact h3, rfl, rfl⟩ (.refl _)
theorem conn_feat {l : List Cand} {x y : Int} (h : Conn (Ed l) x y) (hx : x ∈ feats l) : y ∈ feats l := by
  induction h with
  | refl _ => exact hx
  | edge e _ ih => obtain ⟨i, j, h1, h2, _, rfl, rfl⟩ := e; exact ih (feats_get h2)
  | back e _ ih => obtain ⟨i, j, h1, h2, _, rfl, rfl⟩ := e; exact ih (feats_get h1)

noncomputable def dec (p : Prop) : Bool := @decide p (Classical.propDecidable p)
theorem dec_iff (p : Prop) : dec p = true ↔ p := by unfold dec; simp
theorem dec_eq {p : Prop} {b : Bool} (h : b = true ↔ p) : dec p = b := by
  have := dec_iff p
  rcases hb : b with _ | _ <;> rcases hd : dec p with _ | _ <;> simp_all
/-- the groups: of each feature that is the least of those linked to it, all that are linked to it, ascending; 'all': the features, ascending -/
noncomputable def clS (E : Int → Int → Prop) (all : List Int) : List (List Int) := (all.filter fun x => dec (∀ y ∈ all, Conn E x y → x ≤ y)).map fun r => all.filter fun x => dec (Conn E r x)

/-- the roots among the features pre -/
def rts (ρ : Int → Int) (pre : List Int) : List Int := pre.filter fun x => decide (ρ x = x)
/-- the groups of the features pre, by their roots -/
def grp (ρ : Int → Int) (pre : List Int) : List (List Int) := (rts ρ pre).map fun r => pre.filter fun x => decide (ρ x = r)
theorem grp_len (ρ : Int → Int) (pre : List Int) : (grp ρ pre).length = (rts ρ pre).length := by simp [grp]
theorem grp_get (ρ : Int → Int) (pre : List Int) {i : Nat} (h : i < (rts ρ pre).length) : (grp ρ pre)[i]! = pre.filter fun x => decide (ρ x = (rts ρ pre)[i]!) := by
  simp [grp, h]
theorem rts_new {ρ : Int → Int} {pre : List Int} {x : Int} (h : ρ x = x) : rts ρ (pre ++ [x]) = rts ρ pre ++ [x] := by simp [rts, h]
theorem rts_old {ρ : Int → Int} {pre : List Int} {x : Int} (h : ρ x ≠ x) : rts ρ (pre ++ [x]) = rts ρ pre := by simp [rts, h]
theorem grp_new {ρ : Int → Int} {pre : List Int} {x : Int} (hlt : ∀ y ∈ pre, y < x) (hle : ∀ y ∈ pre, ρ y ≤ y) (h : ρ x = x) : grp ρ (pre ++ [x]) = grp ρ pre ++ [[x]] := by
  unfold grp
  rw [rts_new h, List.map_append]
  congr 1
  · refine List.map_congr_left fun r hr => ?_
    have hr' : r ∈ pre := (List.mem_filter.1 hr).1
    have := hlt r hr'
    have hne : ¬ ρ x = r := by omega
    simp [List.filter_append, hne]
  · have e : pre.filter (fun y => decide (ρ y = x)) = [] := by
      rw [List.filter_eq_nil_iff]
      intro y hy
      have := hlt y hy
      have := hle y hy
      simp only [decide_eq_true_eq]
      omega
    simp [List.filter_append, e, h]
theorem grp_old {ρ : Int → Int} {pre : List Int} {x : Int} {i : Nat} (hnd : (rts ρ pre).Pairwise (· < ·)) (h : ρ x ≠ x) (hi : i < (rts ρ pre).length) (hx : ρ x = (rts ρ pre)[i]!) :
    grp ρ (pre ++ [x]) = (grp ρ pre).set i ((grp ρ pre)[i]! ++ [x]) := by
  rw [grp_get _ _ hi]
  have e0 : grp ρ (pre ++ [x]) = (rts ρ pre).map fun r => pre.filter (fun x => decide (ρ x = r)) ++ (if ρ x = r then [x] else []) := by
    unfold grp
    rw [rts_old h]
    refine List.map_congr_left fun r hr => ?_
    rw [List.filter_append]
    congr 1
    by_cases hxr : ρ x = r <;> simp [hxr]
  rw [e0]
  unfold grp
  generalize rts ρ pre = R at *
  refine List.ext_getElem (by simp) fun j h1 h2 => ?_
  have hj : j < R.length := by simpa using h1
  by_cases e : i = j
  · subst e
    simp only [List.getElem_set_self, List.getElem_map]
    have hx' : ρ x = R[i] := by rw [hx, getElem!_pos R i hi]
    rw [if_pos hx', getElem!_pos R i hi]
  · rw [List.getElem_set_ne e]
    simp only [List.getElem_map]
    have hne : ¬ ρ x = R[j] := by
      rw [hx, getElem!_pos R i hi]
      rcases Nat.lt_or_gt_of_ne e with h3 | h3
      · have := (List.pairwise_iff_getElem.1 hnd) i j hi hj h3; omega
      · have := (List.pairwise_iff_getElem.1 hnd) j i hj hi h3; omega
    simp [hne]

theorem grp_clS {ρ p : Int → Int} {all F : List Int} {E : Int → Int → Prop} (hF : ∀ x, x ∈ all ↔ x ∈ F) (hU : UF F p ρ) (hS : SoundR F ρ E) : grp ρ all = clS E all := by
  have hroot : ∀ x ∈ all, (ρ x = x ↔ ∀ y ∈ all, Conn E x y → x ≤ y) := by
    intro x hx
    have hx' := (hF x).1 hx
    constructor
    · intro h y hy hc
      have := hS.least hU hx' ((hF y).1 hy) hc
      omega
    · intro h
      have hm := hU.mem hx'
      have h1 := h (ρ x) ((hF _).2 hm.1) ((hS x hx' _ hm.1).1 (hU.idem hx').symm)
      omega
  unfold grp rts clS
  have e1 : (all.filter fun x => decide (ρ x = x)) = all.filter fun x => dec (∀ y ∈ all, Conn E x y → x ≤ y) :=
    List.filter_congr fun x hx => (dec_eq (by simpa using hroot x hx)).symm
  rw [e1]
  refine List.map_congr_left fun r hr => ?_
  have hr1 := List.mem_filter.1 hr
  have hrr : ρ r = r := (hroot r hr1.1).2 ((dec_iff _).1 hr1.2)
  refine List.filter_congr fun x hx => (dec_eq ?_).symm
  have := hS r ((hF r).1 hr1.1) x ((hF x).1 hx)
  rw [hrr] at this
  rw [← this]
  simp [eq_comm]

end Go.Proofs.Uf
