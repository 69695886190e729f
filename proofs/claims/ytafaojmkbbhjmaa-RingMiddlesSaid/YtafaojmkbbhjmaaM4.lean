/- search: the first row that has runs. -/
import Derived.Test.YtafaojmkbbhjmaaM3
set_option linter.unusedVariables false
set_option linter.unusedSimpArgs false
namespace Go.Proofs
open Go.RowKit Go.Proofs.Mp

/-- numbers up to 2^49 -/
def near49 (n : Int) : Prop := -562949953421312 ≤ n ∧ n ≤ 562949953421312
theorem endsTo_near {l : List Pt} {y : Int} (hv : allVp l) (hy1 : -1048576 ≤ y) (hy2 : y ≤ 1048576) : ∀ k, k ≤ l.length → ∀ x ∈ endsTo l y k, near49 x := by
  intro k
  induction k with
  | zero => intro _ x hx; simp [endsTo] at hx
  | succ k ih =>
    intro hk x hx
    unfold endsTo at hx
    rw [List.mem_append] at hx
    rcases hx with hx | hx
    · exact ih (by omega) x hx
    · unfold eE at hx
      split at hx
      · rw [List.mem_singleton] at hx
        subst hx
        have hb := way_bound (hv k (by omega)) (edE_vp hv (show k < l.length by omega)) hy1 hy2
        have hc := cei_le (n := wayI y l[k]! (edE l k)) (d := (edE l k).2 - l[k]!.2) (by
          intro h0
          have : crossB y l[k]! (edE l k) = false := by
            unfold crossB
            rw [show (edE l k).2 = l[k]!.2 by omega]
            simp
          simp_all)
        have ha := hv k (by omega)
        obtain ⟨a1, a2, _, _⟩ := ha
        have : absI (wayI y l[k]! (edE l k)) ≤ 4398046511104 := by unfold absI; split <;> omega
        unfold near49 upI
        omega
      · simp at hx
theorem insTo_mem {e : List Int} : ∀ m, 2 * m ≤ e.length → ∀ r ∈ insTo e m, r.1 ∈ e ∧ r.2 ∈ e ∧ r.1 < r.2 := by
  intro m
  induction m with
  | zero => intro _ r hr; simp [insTo] at hr
  | succ m ih =>
    intro hm r hr
    unfold insTo at hr
    rw [List.mem_append] at hr
    rcases hr with hr | hr
    · exact ih (by omega) r hr
    · split at hr
      · rename_i hlt
        rw [List.mem_singleton] at hr
        subst hr
        refine ⟨?_, ?_, hlt⟩
        · show e[2 * m]! ∈ e
          rw [getElem!_pos e (2 * m) (by omega)]; exact List.getElem_mem _
        · show e[2 * m + 1]! ∈ e
          rw [getElem!_pos e (2 * m + 1) (by omega)]; exact List.getElem_mem _
      · simp at hr
theorem insL_mem {l : List Pt} {y : Int} (hv : allVp l) (hy1 : -1048576 ≤ y) (hy2 : y ≤ 1048576) : ∀ r ∈ insL l y, near49 r.1 ∧ near49 r.2 ∧ r.1 < r.2 := by
  intro r hr
  obtain ⟨h1, h2, h3⟩ := insTo_mem _ (by omega) r hr
  have hp : (srtI (endsTo l y l.length)).Perm (endsTo l y l.length) := srtI_perm _
  exact ⟨endsTo_near hv hy1 hy2 _ (Nat.le_refl _) _ (hp.mem_iff.1 h1), endsTo_near hv hy1 hy2 _ (Nat.le_refl _) _ (hp.mem_iff.1 h2), h3⟩
theorem rowL_in {l : List Pt} {y : Int} (hv : allVp l) (hy1 : -1048576 ≤ y) (hy2 : y ≤ 1048576) : ∀ j, j < (rowL l y).length → inR50 (rowL l y)[j]! := by
  intro j hj
  have hmem : (rowL l y)[j]! ∈ rowL l y := by rw [getElem!_pos _ j hj]; exact List.getElem_mem _
  generalize (rowL l y)[j]! = r at *
  have hvl : Vld (rowL l y) := by
    unfold rowL
    split
    · exact Vld.nil
    · exact minusL_vld _ _
  have hlt := hvl.1 r hmem
  have key : ∀ x, hasL (rowL l y) x = true → near49 x := by
    intro x hx
    have hx2 : hasL (insL l y) x = true := by
      unfold rowL at hx
      split at hx
      · simp [hasL] at hx
      · rw [minusL_has, Bool.and_eq_true] at hx
        exact hx.1
    obtain ⟨q, hq, h1, h2⟩ := hasL_iff.1 hx2
    obtain ⟨g1, g2, g3⟩ := insL_mem hv hy1 hy2 q hq
    unfold near49 at *
    omega
  have k1 := key r.1 (hasL_iff.2 ⟨r, hmem, by omega, hlt⟩)
  have k2 := key (r.2 - 1) (hasL_iff.2 ⟨r, hmem, by omega, by omega⟩)
  unfold near49 at k1 k2
  unfold inR50
  omega

/-- the rows in their order: the one in the middle, the one above it, the one below it .. -/
def ysq (m : Int) (i : Nat) : Int := if i % 2 = 1 then m + ((i + 1) / 2 : Nat) else m - (i / 2 : Nat)
def frst (ok : Int → Bool) (y0 y1 m : Int) : Nat → Option Int
  | 0 => none
  | n + 1 => match frst ok y0 y1 m n with
    | some y => some y
    | none => if y0 ≤ ysq m n ∧ ysq m n ≤ y1 ∧ ok (ysq m n) = true then some (ysq m n) else none
theorem frst_some {ok : Int → Bool} {y0 y1 m : Int} {n : Nat} {y : Int} (h : frst ok y0 y1 m n = some y) : ∀ k, n ≤ k → frst ok y0 y1 m k = some y := by
  intro k hk
  induction k with
  | zero => obtain rfl : n = 0 := by omega
            exact h
  | succ k ih =>
    rcases Nat.lt_or_ge n (k + 1) with h1 | h1
    · unfold frst
      rw [ih (by omega)]
    · obtain rfl : n = k + 1 := by omega
      exact h
theorem frst_out {ok : Int → Bool} {y0 y1 m : Int} {n : Nat} (h : ¬ (y0 ≤ ysq m n ∧ ysq m n ≤ y1)) : frst ok y0 y1 m (n + 1) = frst ok y0 y1 m n := by
  rw [frst]
  cases frst ok y0 y1 m n with
  | some y => rfl
  | none => exact if_neg (fun g => h ⟨g.1, g.2.1⟩)
theorem frst_no {ok : Int → Bool} {y0 y1 m : Int} {n : Nat} (h : ok (ysq m n) = false) : frst ok y0 y1 m (n + 1) = frst ok y0 y1 m n := by
  rw [frst]
  cases frst ok y0 y1 m n with
  | some y => rfl
  | none => exact if_neg (fun g => by rw [h] at g; exact absurd g.2.2 (by decide))
theorem frst_yes {ok : Int → Bool} {y0 y1 m : Int} {n : Nat} (h0 : frst ok y0 y1 m n = none) (h1 : y0 ≤ ysq m n) (h2 : ysq m n ≤ y1) (h : ok (ysq m n) = true) : frst ok y0 y1 m (n + 1) = some (ysq m n) := by
  rw [frst, h0]
  exact if_pos ⟨h1, h2, h⟩

def okY (l : List Pt) (y : Int) : Bool := longB (rowL l y)
/-- the number of rows tried when row number i of the pair d comes -/
def trN (d i : Nat) : Nat := if d = 0 then min i 1 else 2 * d - 1 + i
def mdR (l : List Pt) (b : Bo) : Option Int := frst (okY l) b.y0 b.y1 (flo (b.y0 + b.y1) 2) (trN (b.y1 - b.y0 + 1).toNat 0)
def mdP (l : List Pt) (o : Option Int) : Pt := match o with
  | some y => (longX (rowL l y), y)
  | none => (0, 0)
end Go.Proofs
