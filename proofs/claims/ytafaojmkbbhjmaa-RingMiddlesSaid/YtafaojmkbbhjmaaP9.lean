/- Plain: the reference's runs of a row are the program's, merged; its longest run is the longest of the merged ones. -/
import Derived.Test.YtafaojmkbbhjmaaP6
import Derived.Test.YtafaojmkbbhjmaaA11
import Derived.Test.YtafaojmkbbhjmaaM8
set_option linter.unusedVariables false
set_option linter.unusedSimpArgs false
namespace Go.Proofs
open Go.RowKit Go.Proofs.Mp

def Pcs (ps : List (Int × Int)) : Prop := (∀ r ∈ ps, r.1 < r.2) ∧ ps.Pairwise fun r s => r.2 ≤ s.1
theorem longTo_app (zs ys : List (Int × Int)) : ∀ k, k ≤ zs.length → longTo (zs ++ ys) k = longTo zs k
  | 0, _ => rfl
  | k + 1, hk => by
    have h : (zs ++ ys)[k]! = zs[k]! := by
      rw [getElem!_pos (zs ++ ys) k (by rw [List.length_append]; omega), getElem!_pos zs k (by omega), List.getElem_append_left (by omega)]
    unfold longTo
    rw [longTo_app zs ys k (by omega), h]
def lngL (zs : List (Int × Int)) : Int × Int := longTo zs zs.length
theorem lngL_snoc (zs : List (Int × Int)) (x : Int × Int) : lngL (zs ++ [x]) = if (lngL zs).2 - (lngL zs).1 < x.2 - x.1 then x else lngL zs := by
  have h : (zs ++ [x])[zs.length]! = x := by
    rw [getElem!_pos (zs ++ [x]) zs.length (by simp)]
    simp
  unfold lngL
  rw [List.length_append, List.length_singleton]
  rw [longTo, longTo_app zs [x] zs.length (Nat.le_refl _), h]
theorem mergeL_snoc (zs : List (Int × Int)) (r : Int × Int) : mergeL (zs ++ [r]) = mergeStep (mergeL zs) r := by simp [mergeL, List.foldl_append]
theorem take_snoc {ps : List (Int × Int)} {k : Nat} (h : k < ps.length) : ps.take (k + 1) = ps.take k ++ [ps[k]!] := by
  rw [List.take_add_one, List.getElem?_eq_getElem h, getElem!_pos ps k h]
  rfl
theorem best_merge {ps : List (Int × Int)} (h : Pcs ps) : ∀ k, k ≤ ps.length → bestTo ps k = lngL (mergeL (ps.take k)) ∧ (0 < k → ∃ d, mergeL (ps.take k) = d ++ [nowTo ps k] ∧ (nowTo ps k).2 = ps[k-1]!.2 ∧ (nowTo ps k).1 < (nowTo ps k).2)
  | 0, _ => ⟨by simp [mergeL, lngL, bestTo, longTo], fun h => absurd h (by omega)⟩
  | k + 1, hk => by
    obtain ⟨ih1, ih2⟩ := best_merge h k (by omega)
    have hlt : k < ps.length := by omega
    have hmem : ps[k]! ∈ ps := by rw [getElem!_pos ps k hlt]; exact List.getElem_mem _
    have hne := h.1 _ hmem
    rw [take_snoc hlt, mergeL_snoc]
    have hb : bestTo ps (k + 1) = if (bestTo ps k).2 - (bestTo ps k).1 < (nowTo ps (k + 1)).2 - (nowTo ps (k + 1)).1 then nowTo ps (k + 1) else bestTo ps k := rfl
    have hn : nowTo ps (k + 1) = if 0 < k ∧ (nowTo ps k).2 = ps[k]!.1 then ((nowTo ps k).1, ps[k]!.2) else ps[k]! := rfl
    rw [hb, Nat.add_sub_cancel]
    by_cases h0 : k = 0
    · subst h0
      rw [if_neg (by omega)] at hn
      rw [List.take_zero, show mergeL [] = [] from rfl, mergeStep_nil _ (by omega), hn]
      refine ⟨?_, fun _ => ⟨[], rfl, rfl, hne⟩⟩
      rw [show [ps[0]!] = [] ++ [ps[0]!] from rfl, lngL_snoc]
      rfl
    · obtain ⟨d, hd, he, hw⟩ := ih2 (by omega)
      have hle : ps[k-1]!.2 ≤ ps[k]!.1 := by
        have := List.pairwise_iff_getElem.1 h.2 (k - 1) k (by omega) hlt (by omega)
        rw [getElem!_pos ps (k-1) (by omega), getElem!_pos ps k hlt]
        exact this
      rw [hd] at ih1 ⊢
      rw [mergeStep_snoc _ _ _ (by omega)]
      generalize hq : nowTo ps k = n at *
      generalize hq2 : ps[k]! = r at *
      rw [lngL_snoc] at ih1
      by_cases hj : n.2 = r.1
      · rw [if_pos ⟨by omega, hj⟩] at hn
        rw [if_pos (show r.1 ≤ n.2 by omega), show max n.2 r.2 = r.2 by omega, hn, lngL_snoc]
        refine ⟨?_, fun _ => ⟨d, rfl, rfl, by show n.1 < r.2; omega⟩⟩
        rw [ih1]
        dsimp only
        by_cases hc : (lngL d).2 - (lngL d).1 < n.2 - n.1
        · rw [if_pos hc, if_pos (by omega), if_pos (by omega)]
        · rw [if_neg hc]
      · rw [if_neg (fun g => hj g.2)] at hn
        rw [if_neg (show ¬ r.1 ≤ n.2 by omega), hn, lngL_snoc (d ++ [n]), lngL_snoc d, ← ih1]
        exact ⟨rfl, fun _ => ⟨d ++ [n], rfl, rfl, hne⟩⟩
theorem best_all {ps : List (Int × Int)} (h : Pcs ps) : bestTo ps ps.length = lngL (mergeL ps) := by
  have := (best_merge h ps.length (Nat.le_refl _)).1
  rwa [List.take_length] at this
theorem Pcs.sorted {ps : List (Int × Int)} (h : Pcs ps) : SortedLo ps := by
  refine List.pairwise_iff_getElem.2 fun i j hi hj hij => ?_
  have := List.pairwise_iff_getElem.1 h.2 i j hi hj hij
  have := h.1 _ (List.getElem_mem hi)
  omega

/-- the integers beside the places where a segment meets a row -/
def brk (y : Int) (a b : Pt) : List Int :=
  if y < min a.2 b.2 ∨ max a.2 b.2 < y then [] else if a.2 = b.2 then [a.1, b.1] else [a.1 + flo (wayI y a b) (b.2 - a.2), a.1 + upI y a b]
def atTo (l : List Pt) (y : Int) : Nat → List Int
  | 0 => []
  | k + 1 => putL (putL [] (atTo l y k)) (brk y l[k]! (edE l k))
theorem atTo_asc (l : List Pt) (y : Int) : ∀ k, Asc (atTo l y k)
  | 0 => List.Pairwise.nil
  | k + 1 => putL_asc _ (putL_asc _ List.Pairwise.nil)
theorem atTo_mem {l : List Pt} {y x : Int} : ∀ k, x ∈ atTo l y k ↔ ∃ i, i < k ∧ x ∈ brk y l[i]! (edE l i)
  | 0 => by simp [atTo]
  | k + 1 => by
    unfold atTo
    rw [putL_mem, putL_mem, atTo_mem k]
    constructor
    · rintro ((h | ⟨i, h1, h2⟩) | h)
      · cases h
      · exact ⟨i, by omega, h2⟩
      · exact ⟨k, by omega, h⟩
    · rintro ⟨i, h1, h2⟩
      rcases Nat.lt_succ_iff_lt_or_eq.1 h1 with g | rfl
      · exact .inl (.inr ⟨i, g, h2⟩)
      · exact .inr h2
def pcA (IN : Int → Bool) (at_ : List Int) (i : Nat) : List (Int × Int) := if IN at_[i]! = true then [(at_[i]!, at_[i]! + 1)] else []
def pcB (IN : Int → Bool) (at_ : List Int) (i : Nat) : List (Int × Int) := if i + 1 < at_.length ∧ at_[i]! + 1 < at_[i + 1]! ∧ IN (at_[i]! + 1) = true then [(at_[i]! + 1, at_[i + 1]!)] else []
def pcs (IN : Int → Bool) (at_ : List Int) : Nat → List (Int × Int)
  | 0 => []
  | i + 1 => pcs IN at_ i ++ pcA IN at_ i ++ pcB IN at_ i
theorem asc_at {zs : List Int} (h : Asc zs) {i j : Nat} (hij : i < j) (hj : j < zs.length) : zs[i]! < zs[j]! := by
  have := List.pairwise_iff_getElem.1 h i j (by omega) hj hij
  rw [getElem!_pos zs i (by omega), getElem!_pos zs j hj]
  exact this
theorem pcs_mem {IN : Int → Bool} {zs : List Int} {r : Int × Int} : ∀ k, r ∈ pcs IN zs k ↔ ∃ i, i < k ∧ (r ∈ pcA IN zs i ∨ r ∈ pcB IN zs i)
  | 0 => by simp [pcs]
  | k + 1 => by
    unfold pcs
    rw [List.mem_append, List.mem_append, pcs_mem k]
    constructor
    · rintro ((⟨i, h1, h2⟩ | h) | h)
      · exact ⟨i, by omega, h2⟩
      · exact ⟨k, by omega, .inl h⟩
      · exact ⟨k, by omega, .inr h⟩
    · rintro ⟨i, h1, h2⟩
      rcases Nat.lt_succ_iff_lt_or_eq.1 h1 with g | rfl
      · exact .inl (.inl ⟨i, g, h2⟩)
      · rcases h2 with h2 | h2
        · exact .inl (.inr h2)
        · exact .inr h2
theorem pcA_mem {IN : Int → Bool} {zs : List Int} {i : Nat} {r : Int × Int} (h : r ∈ pcA IN zs i) : r = (zs[i]!, zs[i]! + 1) ∧ IN zs[i]! = true := by
  unfold pcA at h
  split at h
  · rename_i g; exact ⟨List.mem_singleton.1 h, g⟩
  · cases h
theorem pcB_mem {IN : Int → Bool} {zs : List Int} {i : Nat} {r : Int × Int} (h : r ∈ pcB IN zs i) : r = (zs[i]! + 1, zs[i + 1]!) ∧ i + 1 < zs.length ∧ zs[i]! + 1 < zs[i + 1]! ∧ IN (zs[i]! + 1) = true := by
  unfold pcB at h
  split at h
  · rename_i g; exact ⟨List.mem_singleton.1 h, g⟩
  · cases h
theorem pcs_pcs {IN : Int → Bool} {zs : List Int} (h : Asc zs) : ∀ k, k ≤ zs.length → Pcs (pcs IN zs k) ∧ ∀ r ∈ pcs IN zs k, k < zs.length → r.2 ≤ zs[k]!
  | 0, _ => ⟨⟨fun r hr => by simp [pcs] at hr, List.Pairwise.nil⟩, fun r hr => by simp [pcs] at hr⟩
  | k + 1, hk => by
    obtain ⟨⟨i1, i2⟩, i3⟩ := pcs_pcs (IN := IN) h k (by omega)
    have hs : k + 1 < zs.length → zs[k]! < zs[k + 1]! := fun g => asc_at h (by omega) g
    refine ⟨⟨?_, ?_⟩, ?_⟩
    · intro r hr
      unfold pcs at hr
      rw [List.mem_append, List.mem_append] at hr
      rcases hr with (hr | hr) | hr
      · exact i1 r hr
      · obtain ⟨rfl, _⟩ := pcA_mem hr
        dsimp only; omega
      · obtain ⟨rfl, _⟩ := pcB_mem hr
        dsimp only; omega
    · unfold pcs
      rw [List.pairwise_append, List.pairwise_append]
      refine ⟨⟨i2, ?_, ?_⟩, ?_, ?_⟩
      · unfold pcA; split <;> simp
      · intro r hr s hs
        obtain ⟨rfl, _⟩ := pcA_mem hs
        exact i3 r hr (by omega)
      · unfold pcB; split <;> simp
      · intro r hr s hs
        obtain ⟨rfl, _⟩ := pcB_mem hs
        rw [List.mem_append] at hr
        dsimp only
        rcases hr with hr | hr
        · have := i3 r hr (by omega); omega
        · obtain ⟨rfl, _⟩ := pcA_mem hr
          dsimp only; omega
    · intro r hr hlt
      have := hs hlt
      unfold pcs at hr
      rw [List.mem_append, List.mem_append] at hr
      rcases hr with (hr | hr) | hr
      · have := i3 r hr (by omega); omega
      · obtain ⟨rfl, _⟩ := pcA_mem hr
        dsimp only; omega
      · obtain ⟨rfl, _⟩ := pcB_mem hr
        dsimp only; omega
/-- between two successive places nothing changes -/
theorem edge_same {a b : Pt} {y lo hi x x' : Int} (h : ∀ z ∈ brk y a b, z ≤ lo ∨ hi ≤ z) (h1 : lo < x) (h2 : x < hi) (h3 : lo < x') (h4 : x' < hi) :
    onB a b (x, y) = onB a b (x', y) ∧ crB a b (x, y) = crB a b (x', y) := by
  have hB : ∀ x, a.2 ≠ b.2 → onB a b (x, y) = true → x ∈ brk y a b := by
    intro x hne ho
    obtain ⟨ht, hx⟩ := onB_iff.1 ho
    unfold inBx at hx
    dsimp only at hx
    unfold brk
    rw [if_neg (by omega), if_neg hne]
    have hu : upI y a b = x - a.1 := by
      have hw : (b.2 - a.2) * (x - a.1) = wayI y a b := by have := tw_way a b x y; omega
      unfold upI; rw [← hw]; exact cei_exact' (by omega)
    rw [hu, show a.1 + (x - a.1) = x by omega]
    simp
  constructor
  · by_cases hr : y < min a.2 b.2 ∨ max a.2 b.2 < y
    · have hf : ∀ x, onB a b (x, y) = false := by
        intro x
        rw [Bool.eq_false_iff]
        intro ho
        obtain ⟨_, hx⟩ := onB_iff.1 ho
        unfold inBx at hx
        dsimp only at hx
        omega
      rw [hf, hf]
    · by_cases he : a.2 = b.2
      · unfold brk at h
        rw [if_neg hr, if_pos he] at h
        have k1 := h a.1 (by simp)
        have k2 := h b.1 (by simp)
        have ht : ∀ x, tw a b (x, y) = 0 := by
          intro x
          unfold tw
          dsimp only
          rw [show y - a.2 = 0 by omega, show b.2 - a.2 = 0 by omega]
          simp
        rw [Bool.eq_iff_iff, onB_iff, onB_iff, ht, ht]
        unfold inBx
        dsimp only
        omega
      · have hf : ∀ x, lo < x → x < hi → onB a b (x, y) = false := by
          intro x g1 g2
          rw [Bool.eq_false_iff]
          intro ho
          have := h x (hB x he ho)
          omega
        rw [hf x h1 h2, hf x' h3 h4]
  · rw [crB_end, crB_end]
    by_cases hc : crossB y a b = true
    · have hc' := hc
      rw [cross_iff] at hc'
      have hm : a.1 + upI y a b ∈ brk y a b := by
        unfold brk
        rw [if_neg (by omega), if_neg (by omega)]
        simp
      have := h _ hm
      rw [hc, Bool.true_and, Bool.true_and, decide_eq_decide]
      omega
    · rw [Bool.not_eq_true] at hc
      rw [hc, Bool.false_and, Bool.false_and]
theorem par_congr {l : List Pt} {p q : Pt} (h : ∀ i, i < l.length → crB l[i]! (edE l i) p = crB l[i]! (edE l i) q) : ∀ k, k ≤ l.length → parTo l p k = parTo l q k
  | 0, _ => rfl
  | k + 1, hk => by
    unfold parTo
    rw [par_congr h k (by omega), h k (by omega)]
theorem on_congr {l : List Pt} {p q : Pt} (h : ∀ i, i < l.length → onB l[i]! (edE l i) p = onB l[i]! (edE l i) q) : onAny l p = onAny l q := by
  unfold onAny
  rw [Bool.eq_iff_iff, List.any_eq_true, List.any_eq_true]
  constructor
  · rintro ⟨i, hi, hp⟩
    exact ⟨i, hi, by rw [← h i (List.mem_range.1 hi)]; exact hp⟩
  · rintro ⟨i, hi, hp⟩
    exact ⟨i, hi, by rw [h i (List.mem_range.1 hi)]; exact hp⟩
/-- inside, by the boundary and the parity -/
def inB (l : List Pt) (y x : Int) : Bool := parTo l (x, y) l.length && !onAny l (x, y)
theorem in_same {l : List Pt} {y lo hi x x' : Int} (h : ∀ z ∈ atTo l y l.length, z ≤ lo ∨ hi ≤ z) (h1 : lo < x) (h2 : x < hi) (h3 : lo < x') (h4 : x' < hi) : inB l y x = inB l y x' := by
  have k : ∀ i, i < l.length → onB l[i]! (edE l i) (x, y) = onB l[i]! (edE l i) (x', y) ∧ crB l[i]! (edE l i) (x, y) = crB l[i]! (edE l i) (x', y) :=
    fun i hi => edge_same (fun z hz => h z ((atTo_mem _).2 ⟨i, hi, hz⟩)) h1 h2 h3 h4
  unfold inB
  rw [par_congr (fun i hi => (k i hi).2) _ (Nat.le_refl _), on_congr (fun i hi => (k i hi).1)]
theorem ends_at {l : List Pt} {y x : Int} : ∀ k, x ∈ endsTo l y k → x ∈ atTo l y k
  | 0, h => by simp [endsTo] at h
  | k + 1, h => by
    unfold endsTo at h
    rw [List.mem_append] at h
    rw [atTo_mem]
    rcases h with h | h
    · obtain ⟨i, g1, g2⟩ := (atTo_mem k).1 (ends_at k h)
      exact ⟨i, by omega, g2⟩
    · refine ⟨k, by omega, ?_⟩
      unfold eE at h
      split at h
      · rename_i hc
        rw [List.mem_singleton] at h
        rw [cross_iff] at hc
        unfold brk
        rw [if_neg (by omega), if_neg (by omega), h]
        simp
      · cases h
/-- a point inside lies between two places -/
theorem in_between {l : List Pt} {y x : Int} (h0 : 0 < l.length) (h : inB l y x = true) : ∃ z1 ∈ atTo l y l.length, ∃ z2 ∈ atTo l y l.length, z1 ≤ x ∧ x < z2 := by
  unfold inB at h
  rw [Bool.and_eq_true, ← ins_par h0] at h
  obtain ⟨r, hr, g1, g2⟩ := hasL_iff.1 h.1
  have hr' : r ∈ insTo (srtI (endsTo l y l.length)) ((srtI (endsTo l y l.length)).length / 2) := hr
  obtain ⟨m1, m2, _⟩ := insTo_mem _ (by omega) r hr'
  have hp : (srtI (endsTo l y l.length)).Perm (endsTo l y l.length) := srtI_perm _
  exact ⟨r.1, ends_at _ (hp.mem_iff.1 m1), r.2, ends_at _ (hp.mem_iff.1 m2), g1, g2⟩
theorem find_cell {zs : List Int} (h : Asc zs) {x z1 z2 : Int} (m1 : z1 ∈ zs) (m2 : z2 ∈ zs) (h1 : z1 ≤ x) (h2 : x < z2) : ∃ i, i + 1 < zs.length ∧ zs[i]! ≤ x ∧ x < zs[i + 1]! := by
  obtain ⟨i, hi, rfl⟩ := List.mem_iff_getElem.1 m1
  obtain ⟨j, hj, rfl⟩ := List.mem_iff_getElem.1 m2
  have key : ∀ d i, (hi : i < zs.length) → zs[i]! ≤ x → i + d = j → ∃ i, i + 1 < zs.length ∧ zs[i]! ≤ x ∧ x < zs[i + 1]! := by
    intro d
    induction d with
    | zero =>
      intro i hi hx he
      obtain rfl : i = j := by omega
      rw [getElem!_pos zs i hi] at hx
      omega
    | succ d ih =>
      intro i hi hx he
      by_cases hc : zs[i + 1]! ≤ x
      · exact ih (i + 1) (by omega) hc (by omega)
      · exact ⟨i, by omega, hx, by omega⟩
  have hij : i ≤ j := by
    rcases Nat.lt_or_ge j i with g | g
    · have := List.pairwise_iff_getElem.1 h j i hj hi g
      omega
    · exact g
  exact key (j - i) i hi (by rw [getElem!_pos zs i hi]; exact h1) (by omega)
theorem pcs_has {l : List Pt} (h0 : 0 < l.length) (y x : Int) : hasL (pcs (inB l y) (atTo l y l.length) (atTo l y l.length).length) x = inB l y x := by
  have ha := atTo_asc l y l.length
  have hcell : ∀ i, i + 1 < (atTo l y l.length).length → ∀ z ∈ atTo l y l.length, z ≤ (atTo l y l.length)[i]! ∨ (atTo l y l.length)[i + 1]! ≤ z := by
    intro i hi z hz
    obtain ⟨j, hj, rfl⟩ := List.mem_iff_getElem.1 hz
    rw [← getElem!_pos (atTo l y l.length) j hj]
    rcases Nat.lt_or_ge i j with g | g
    · right
      rcases Nat.lt_or_ge (i + 1) j with g2 | g2
      · exact Int.le_of_lt (asc_at ha g2 hj)
      · obtain rfl : j = i + 1 := by omega
        exact Int.le_refl _
    · left
      rcases Nat.lt_or_ge j i with g2 | g2
      · exact Int.le_of_lt (asc_at ha g2 (by omega))
      · obtain rfl : j = i := by omega
        exact Int.le_refl _
  rw [Bool.eq_iff_iff, hasL_iff]
  constructor
  · rintro ⟨r, hr, h1, h2⟩
    obtain ⟨i, hi, hr | hr⟩ := (pcs_mem _).1 hr
    · obtain ⟨rfl, hin⟩ := pcA_mem hr
      dsimp only at h1 h2
      rw [show x = (atTo l y l.length)[i]! by omega]
      exact hin
    · obtain ⟨rfl, hl, hw, hin⟩ := pcB_mem hr
      dsimp only at h1 h2
      rw [← hin]
      exact in_same (hcell i hl) (by omega) (by omega) (by omega) (by omega)
  · intro h
    obtain ⟨z1, m1, z2, m2, g1, g2⟩ := in_between h0 h
    obtain ⟨i, hi, k1, k2⟩ := find_cell ha m1 m2 g1 g2
    rcases Int.lt_or_eq_of_le k1 with k1 | k1
    · refine ⟨((atTo l y l.length)[i]! + 1, (atTo l y l.length)[i + 1]!), (pcs_mem _).2 ⟨i, by omega, .inr ?_⟩, by dsimp only; omega, k2⟩
      unfold pcB
      have hin : inB l y ((atTo l y l.length)[i]! + 1) = true := by
        rw [← h]
        exact in_same (hcell i hi) (by omega) (by omega) (by omega) (by omega)
      rw [if_pos ⟨hi, by omega, hin⟩]
      exact List.mem_singleton.2 rfl
    · refine ⟨((atTo l y l.length)[i]!, (atTo l y l.length)[i]! + 1), (pcs_mem _).2 ⟨i, by omega, .inl ?_⟩, by dsimp only; omega, by dsimp only; omega⟩
      unfold pcA
      rw [if_pos (by rw [k1]; exact h)]
      exact List.mem_singleton.2 rfl
def pcL (l : List Pt) (y : Int) : List (Int × Int) := pcs (inB l y) (atTo l y l.length) (atTo l y l.length).length
theorem pcL_pcs (l : List Pt) (y : Int) : Pcs (pcL l y) := (pcs_pcs (atTo_asc l y l.length) _ (Nat.le_refl _)).1
theorem pcL_row {l : List Pt} (h0 : 0 < l.length) (y : Int) : mergeL (pcL l y) = rowL l y := by
  obtain ⟨h1, h2⟩ := mergeL_spec (pcL_pcs l y).sorted
  refine Vld.unique h1 (rowL_vld l y) fun x => ?_
  rw [h2, row_has h0]
  exact pcs_has h0 y x
/-- the reference's longest run is the program's -/
theorem best_row {l : List Pt} (h0 : 0 < l.length) (y : Int) : bestTo (pcL l y) (pcL l y).length = longTo (rowL l y) (rowL l y).length := by
  rw [best_all (pcL_pcs l y), pcL_row h0]
  rfl
/-- rows outside of the box change nothing -/
theorem frst_more {ok : Int → Bool} {y0 y1 : Int} {n : Nat} (hn : trN (y1 - y0 + 1).toNat 0 ≤ n ∨ (y1 - y0 + 2).toNat ≤ n) (h01 : y0 ≤ y1) : frst ok y0 y1 (flo (y0 + y1) 2) n = frst ok y0 y1 (flo (y0 + y1) 2) (trN (y1 - y0 + 1).toNat 0) := by
  have hm : trN (y1 - y0 + 1).toNat 0 = 2 * (y1 - y0 + 1).toNat - 1 := by unfold trN; rw [if_neg (by omega)]; rfl
  have key : ∀ d a, (y1 - y0 + 1).toNat ≤ a → frst ok y0 y1 (flo (y0 + y1) 2) (a + d) = frst ok y0 y1 (flo (y0 + y1) 2) a := by
    intro d
    induction d with
    | zero => intro a _; rfl
    | succ d ih =>
      intro a ha
      rw [← ih a ha, ← Nat.add_assoc, frst_out]
      rw [flo2]
      unfold ysq
      split <;> omega
  rcases Nat.le_total n (trN (y1 - y0 + 1).toNat 0) with g | g
  · have := key (trN (y1 - y0 + 1).toNat 0 - n) n (by omega)
    rw [Nat.add_sub_cancel' g] at this
    exact this.symm
  · have := key (n - trN (y1 - y0 + 1).toNat 0) (trN (y1 - y0 + 1).toNat 0) (by omega)
    rwa [Nat.add_sub_cancel' g] at this
end Go.Proofs
