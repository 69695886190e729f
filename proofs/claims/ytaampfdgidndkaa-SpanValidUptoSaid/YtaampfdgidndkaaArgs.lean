/- What a row hands to a walk: a slice of spans, opened to a list of pairs. -/
import Derived.Test.YtaampfdgidndkaaBase
import Derived.Test.YtaampfdgidndkaaRows
import Derived.WalkKit
import Derived.ProofKit
import Derived.OpenShut
import Derived.ChangeOld
import Derived.Below
import Derived.Deep.Slices
import Derived.Deep.Fields
import Derived.ChangeSame
namespace Go.Proofs
open Go.ChangeShapes Go.WideShapes Go.ChangeAt Go.RowKit Go.Deep Go.Proofs.Mp

section
variable {H : Type} {enc : TypeId × Value → H} {P : Program} {w : World} {base : Nat} {spare : Nat → Bool} {held : Bool}
theorem Mp.open_slice_fields {t e : TypeId} {fs : Array Field} {fuel : Nat} {cs : List Value} {x : DataW H × List MemPlace} (ht : P.underlying t = some (.slice e)) (he : P.underlying e = some (.struct fs))
    (hone : oneCellFields P fs = true) (hC : P.cellsOf e = fs.size) (h : DataW.trod enc P w base spare held fuel t cs = some x) :
    (cs = [.slice none 0 0] ∧ x = (.nil, [])) ∨
    ∃ (a : Addr) (len cap m : Nat) (D : Nat → DataW H) (Pl : Nat → List MemPlace), cs = [.slice (some a) len cap] ∧ base ≤ a.block ∧ len ≤ cap ∧ cap ≤ maxLen ∧ m = (if spare a.block then cap else len) ∧
      x = (.slice ((List.range len).map D) ((List.range (m - len)).map fun j => D (len + j)), MemPlace.row a (m * fs.size) ++ (List.range m).flatMap Pl) ∧
      ∀ i, i < m → ∃ (ys : List (DataW H × List MemPlace)) (n : Nat), D i = .agg (ys.map (·.1)) ∧ Pl i = ys.flatMap (·.2) ∧ ys.length = fs.size ∧
        ∀ (j : Nat) (f : Field), fs[j]? = some f → ∃ (v : Value) (y : DataW H × List MemPlace), w.cell? (a.add (i * fs.size + j)) = some v ∧ ys[j]? = some y ∧ DataW.trod enc P w base spare held n f.type [v] = some y := by
  rcases open_slice ht h with h0 | ⟨a, len, cap, m, n, D, Pl, hcs, hb, hl, hm, hmm, hx, hi⟩
  · exact .inl h0
  · refine .inr ⟨a, len, cap, m, D, Pl, hcs, hb, hl, hm, hmm, by rw [hC] at hx; exact hx, fun i him => ?_⟩
    obtain ⟨cs', hc, ht'⟩ := hi i him
    rw [hC] at hc
    obtain ⟨ys, n', hn', hy, hlen, hyl, hf⟩ := DataW.trod_struct he ht'
    obtain ⟨_, hcl, hat⟩ := World.cells?_some hc
    simp only [Prod.mk.injEq] at hy
    refine ⟨ys, n', hy.1, hy.2, hyl, fun j f hj => ?_⟩
    obtain ⟨ho, hk⟩ := hone_of hone j f hj
    have hjl : j < fs.size := (Array.getElem?_eq_some_iff.1 hj).1
    have hcell := hat j hjl
    have hv : cs'[j]? = some (cs'[j]'(by omega)) := List.getElem?_eq_getElem (by omega)
    have h1 := hf j f hj
    rw [ho, hk] at h1
    have hone' : (cs'.drop j).take 1 = [cs'[j]'(by omega)] := by
      rw [List.drop_eq_getElem_cons (by omega)]
      rfl
    rw [hone'] at h1
    have hys : ys[j]? = some (ys[j]'(by omega)) := List.getElem?_eq_getElem (by omega)
    refine ⟨_, _, ?_, hys, h1.trans hys⟩
    rw [← Go.Deep.add_add, hcell, hv]

/-- A slice of two-integer structs that came in: the pairs that it reads as, and a bulk that is no less than three a pair. -/
theorem Mp.open_spans {t e : TypeId} {f0 f1 : Field} (ht : P.underlying t = some (.slice e)) (he : P.underlying e = some (.struct #[f0, f1])) (hf0 : P.underlying f0.type = some (.int .i64)) (hf1 : P.underlying f1.type = some (.int .i64))
    (hone : oneCellFields P #[f0, f1] = true) (hC : P.cellsOf e = 2) {A : Option Addr} {len cap : Nat} {d : DataW H} {p : List MemPlace}
    (h : DataW.Trod enc P w base spare held t (.slice A len cap) d p) :
    ∃ zs : List (Int × Int), zs.length = len ∧ len ≤ cap ∧ cap ≤ maxLen ∧ RdR w A zs ∧
      (d = .nil ∧ zs = [] ∨ ∃ (S : List (DataW H)), d = .slice ((List.range len).map fun i => .agg [.lit (.int .i64 zs[i]!.1), .lit (.int .i64 zs[i]!.2)]) S) := by
  obtain ⟨fuel, hf⟩ := h
  rcases Mp.open_slice_fields ht he hone hC hf with ⟨hcs, hx⟩ | ⟨a, l, c, m, D, Pl, hcs, hb, hl, hm, hmm, hx, hi⟩
  · simp [Value.cells] at hcs
    obtain ⟨rfl, rfl, rfl⟩ := hcs
    simp only [Prod.mk.injEq] at hx
    exact ⟨[], rfl, Nat.le_refl _, Nat.zero_le _, Rd.nil _, .inl ⟨hx.1, rfl⟩⟩
  · simp [Value.cells] at hcs
    obtain ⟨rfl, rfl, rfl⟩ := hcs
    simp only [Prod.mk.injEq] at hx
    have hlm : len ≤ m := by rw [hmm]; split <;> omega
    have key : ∀ i, i < len → ∃ r : Int × Int, w.cell? (a.add (i * 2)) = some (.int .i64 r.1) ∧ w.cell? (a.add (i * 2 + 1)) = some (.int .i64 r.2) ∧ D i = .agg [.lit (.int .i64 r.1), .lit (.int .i64 r.2)] := by
      intro i hil
      obtain ⟨ys, n, hD, _, hys, hfs⟩ := hi i (by omega)
      obtain ⟨v0, y0, c0, hy0, t0⟩ := hfs 0 f0 rfl
      obtain ⟨v1, y1, c1, hy1, t1⟩ := hfs 1 f1 rfl
      obtain ⟨n0, e0, rfl, _⟩ := DataW.trod_int hf0 t0
      obtain ⟨n1, e1, rfl, _⟩ := DataW.trod_int hf1 t1
      simp only [List.cons.injEq, and_true] at e0 e1
      subst e0; subst e1
      refine ⟨(n0, n1), by simpa using c0, by simpa using c1, ?_⟩
      rw [hD]
      match ys, hys with
      | [y, y'], _ =>
        simp at hy0 hy1
        subst hy0; subst hy1
        rfl
    obtain ⟨g, hg⟩ : ∃ g : Nat → Int × Int, ∀ i, i < len → w.cell? (a.add (i * 2)) = some (.int .i64 (g i).1) ∧ w.cell? (a.add (i * 2 + 1)) = some (.int .i64 (g i).2) ∧ D i = .agg [.lit (.int .i64 (g i).1), .lit (.int .i64 (g i).2)] := by
      refine ⟨fun i => if h : i < len then (key i h).choose else (0, 0), fun i h => ?_⟩
      simp only [h, dif_pos]
      exact (key i h).choose_spec
    have hz : ∀ j, j < len → ((List.range len).map g)[j]! = g j := fun j hj => by
      rw [getElem!_pos _ _ (by simpa using hj)]
      simp
    refine ⟨(List.range len).map g, by simp, hl, hm, ?_, .inr ⟨(List.range (m - len)).map fun j => D (len + j), ?_⟩⟩
    · by_cases h0 : len = 0
      · left; simp [h0]
      · obtain ⟨b, off, spot⟩ := a
        have hc0 := (hg 0 (by omega)).1
        have hspot : spot = none := by simpa [Addr.add] using World.cell?_spot hc0
        subst hspot
        refine .inr ⟨b, off, rfl, ?_, fun j hj i u hu => ?_⟩
        · have hc0' : w.cell? ⟨b, off, none⟩ = some (.int .i64 (g 0).1) := by simpa [Addr.add] using hc0
          unfold World.cell? at hc0'
          rcases Nat.lt_or_ge b w.heap.size with h | h
          · exact h
          · simp [Array.getElem?_eq_none h] at hc0'
        · simp only [List.length_map, List.length_range] at hj
          rw [hz j hj] at hu
          have hadd : ∀ n, (⟨b, off, none⟩ : Addr).add n = ⟨b, off + n, none⟩ := fun n => by
            unfold Addr.add
            split
            · simp_all
            · rfl
          obtain ⟨g0, g1, _⟩ := hg j hj
          rw [hadd] at g0 g1
          match i with
          | 0 => simp [encR] at hu; subst hu; simpa using g0
          | 1 => simp [encR] at hu; subst hu; rw [Nat.add_assoc]; exact g1
          | i + 2 => simp [encR] at hu
    · rw [hx.1]
      congr 1
      refine List.map_congr_left fun i hi => ?_
      rw [hz i (by simpa using hi)]
      exact (hg i (by simpa using hi)).2.2
end
end Go.Proofs
