/- What a row hands to a walk: a slice of structs all of whose cells are integers, opened to a list. -/
import Derived.Test.YtcfhhkdjdpkjpaaXJ1
import Derived.Test.YtcfhhkdjdpkjpaaRows
import Derived.WalkKit
import Derived.ProofKit
import Derived.OpenShut
import Derived.ChangeOld
import Derived.Below
import Derived.Deep.Slices
import Derived.Deep.Fields
import Derived.ChangeSame
import Derived.Test.YtcfhhkdjdpkjpaaXJ2
set_option linter.unusedVariables false
set_option linter.unusedSimpArgs false
namespace Go.Proofs
open Go.ChangeShapes Go.WideShapes Go.ChangeAt Go.RowKit Go.Deep Go.Proofs.Mp

/-- what a value of type t holds is k integers -/
def Mp.FlatI (P : Program) (t : TypeId) (k : Nat) : Prop :=
  ∀ {H : Type} {enc : TypeId × Value → H} {w : World} {base : Nat} {spare : Nat → Bool} {held : Bool} {fuel : Nat} {cs : List Value} {x : DataW H × List MemPlace},
    DataW.trod enc P w base spare held fuel t cs = some x → ∃ zs : List Int, zs.length = k ∧ cs = zs.map (Value.int .i64) ∧ ∀ z ∈ zs, (Lit.int .i64 z).wf = true

section
variable {P : Program}
theorem Mp.FlatI.int {t : TypeId} (ht : P.underlying t = some (.int .i64)) : FlatI P t 1 := fun h => by
  obtain ⟨n, rfl, _, hw⟩ := DataW.trod_int ht h
  exact ⟨[n], rfl, rfl, by simpa using hw⟩

theorem Mp.flat_join {cs : List Value} {a b : Nat} {ys zs : List Int} (hy : (cs.drop a).take b = ys.map (Value.int .i64)) (hl : ys.length = b) (hz : cs.drop (a + b) = zs.map (Value.int .i64)) : cs.drop a = (ys ++ zs).map (Value.int .i64) := by
  rw [List.map_append, ← hy, ← hz, ← List.drop_drop, List.take_append_drop]

theorem Mp.FlatI.struct2 {t : TypeId} {f0 f1 : Field} {k0 k1 : Nat} (ht : P.underlying t = some (.struct #[f0, f1])) (hC : P.cellsOf t = k0 + k1) (o0 : f0.offset = 0) (o1 : f1.offset = k0) (c0 : P.cellsOf f0.type = k0) (c1 : P.cellsOf f1.type = k1)
    (h0 : FlatI P f0.type k0) (h1 : FlatI P f1.type k1) : FlatI P t (k0 + k1) := fun h => by
  obtain ⟨ys, n, _, _, hlen, hys, hf⟩ := DataW.trod_struct ht h
  rename_i cs x
  have hs : ys.length = 2 := hys
  have g0 := hf 0 f0 rfl
  have g1 := hf 1 f1 rfl
  rw [List.getElem?_eq_getElem (by omega)] at g0 g1
  obtain ⟨z0, l0, e0, w0⟩ := h0 g0
  obtain ⟨z1, l1, e1, w1⟩ := h1 g1
  rw [o0, c0] at e0
  rw [o1, c1, List.take_of_length_le (by rw [List.length_drop]; omega)] at e1
  have := flat_join e0 l0 (by rw [Nat.zero_add]; exact e1)
  rw [List.drop_zero] at this
  exact ⟨z0 ++ z1, by rw [List.length_append]; omega, this, fun z hz => by
    rcases List.mem_append.1 hz with h | h
    · exact w0 z h
    · exact w1 z h⟩

theorem Mp.FlatI.struct4 {t : TypeId} {f0 f1 f2 f3 : Field} {k0 k1 k2 k3 : Nat} (ht : P.underlying t = some (.struct #[f0, f1, f2, f3])) (hC : P.cellsOf t = k0 + k1 + k2 + k3) (o0 : f0.offset = 0) (o1 : f1.offset = k0) (o2 : f2.offset = k0 + k1) (o3 : f3.offset = k0 + k1 + k2)
    (c0 : P.cellsOf f0.type = k0) (c1 : P.cellsOf f1.type = k1) (c2 : P.cellsOf f2.type = k2) (c3 : P.cellsOf f3.type = k3)
    (h0 : FlatI P f0.type k0) (h1 : FlatI P f1.type k1) (h2 : FlatI P f2.type k2) (h3 : FlatI P f3.type k3) : FlatI P t (k0 + k1 + k2 + k3) := fun h => by
  obtain ⟨ys, n, _, _, hlen, hys, hf⟩ := DataW.trod_struct ht h
  rename_i cs x
  have hs : ys.length = 4 := hys
  have g0 := hf 0 f0 rfl
  have g1 := hf 1 f1 rfl
  have g2 := hf 2 f2 rfl
  have g3 := hf 3 f3 rfl
  rw [List.getElem?_eq_getElem (by omega)] at g0 g1 g2 g3
  obtain ⟨z0, l0, e0, w0⟩ := h0 g0
  obtain ⟨z1, l1, e1, w1⟩ := h1 g1
  obtain ⟨z2, l2, e2, w2⟩ := h2 g2
  obtain ⟨z3, l3, e3, w3⟩ := h3 g3
  rw [o0, c0] at e0
  rw [o1, c1] at e1
  rw [o2, c2] at e2
  rw [o3, c3, List.take_of_length_le (by rw [List.length_drop]; omega)] at e3
  have := flat_join e0 l0 (by rw [Nat.zero_add]; exact flat_join e1 l1 (flat_join e2 l2 e3))
  rw [List.drop_zero] at this
  exact ⟨z0 ++ (z1 ++ (z2 ++ z3)), by simp only [List.length_append]; omega, this, fun z hz => by
    rcases List.mem_append.1 hz with h | h
    · exact w0 z h
    rcases List.mem_append.1 h with h | h
    · exact w1 z h
    rcases List.mem_append.1 h with h | h
    · exact w2 z h
    · exact w3 z h⟩
end

section
variable {H : Type} {enc : TypeId × Value → H} {P : Program} {w : World} {base : Nat} {spare : Nat → Bool} {held : Bool}
/-- A slice of such values that came in: the list that it reads as. -/
theorem Mp.open_flat {t e : TypeId} {k : Nat} (ht : P.underlying t = some (.slice e)) (hF : FlatI P e k) (hC : P.cellsOf e = k) (hk : 0 < k) {α : Type} [Inhabited α] (encA : α → List Value) (mk : List Int → α) (hmk : ∀ zs : List Int, zs.length = k → encA (mk zs) = zs.map (Value.int .i64))
    {A : Option Addr} {len cap : Nat} {d : DataW H} {p : List MemPlace} (h : DataW.Trod enc P w base spare held t (.slice A len cap) d p) :
    ∃ xs : List α, xs.length = len ∧ len ≤ cap ∧ cap ≤ maxLen ∧ Rd k encA w A xs ∧ ∀ x ∈ xs, ∃ zs : List Int, x = mk zs ∧ zs.length = k ∧ ∀ z ∈ zs, (Lit.int .i64 z).wf = true := by
  obtain ⟨fuel, hf⟩ := h
  rcases open_slice ht hf with ⟨hcs, hx⟩ | ⟨a, l, c, m, n, D, Pl, hcs, hb, hl, hm, hmm, hx, hi⟩
  · simp [Value.cells] at hcs
    obtain ⟨rfl, rfl, rfl⟩ := hcs
    exact ⟨[], rfl, Nat.le_refl _, Nat.zero_le _, Rd.nil _, by simp⟩
  · simp [Value.cells] at hcs
    obtain ⟨rfl, rfl, rfl⟩ := hcs
    have hlm : len ≤ m := by rw [hmm]; split <;> omega
    have key : ∀ i, i < len → ∃ zs : List Int, zs.length = k ∧ (∀ z ∈ zs, (Lit.int .i64 z).wf = true) ∧ ∀ j v, (zs.map (Value.int .i64))[j]? = some v → w.cell? (a.add (i * k + j)) = some v := by
      intro i hil
      obtain ⟨cs', hc, ht'⟩ := hi i (by omega)
      obtain ⟨zs, hzl, rfl, hzw⟩ := hF ht'
      obtain ⟨_, hcl, hat⟩ := World.cells?_some hc
      refine ⟨zs, hzl, hzw, fun j v hv => ?_⟩
      have hj : j < k := by have := (List.getElem?_eq_some_iff.1 hv).1; simpa [hzl] using this
      have := hat j (by omega)
      rw [hC] at this
      rw [Go.Deep.add_add] at this
      rw [this]
      exact hv
    obtain ⟨g, hg⟩ : ∃ g : Nat → List Int, ∀ i, i < len → (g i).length = k ∧ (∀ z ∈ g i, (Lit.int .i64 z).wf = true) ∧ ∀ j v, ((g i).map (Value.int .i64))[j]? = some v → w.cell? (a.add (i * k + j)) = some v := by
      refine ⟨fun i => if h : i < len then (key i h).choose else [], fun i h => ?_⟩
      simp only [h, dif_pos]
      exact (key i h).choose_spec
    refine ⟨(List.range len).map fun i => mk (g i), by simp, hl, hm, ?_, ?_⟩
    · by_cases h0 : len = 0
      · left; simp [h0]
      · obtain ⟨b, off, spot⟩ := a
        obtain ⟨gl, _, g0⟩ := hg 0 (by omega)
        have hc0 := g0 0 _ (List.getElem?_eq_getElem (by rw [List.length_map]; omega))
        have hspot : spot = none := by simpa [Addr.add] using World.cell?_spot hc0
        subst hspot
        have hadd : ∀ n, (⟨b, off, none⟩ : Addr).add n = ⟨b, off + n, none⟩ := fun n => by
          unfold Addr.add
          split
          · simp_all
          · rfl
        refine .inr ⟨b, off, rfl, ?_, fun j hj i u hu => ?_⟩
        · rw [hadd] at hc0
          exact World.block_lt_of_cell? w _ hc0
        · simp only [List.length_map, List.length_range] at hj
          have e1 : ((List.range len).map fun i => mk (g i))[j]! = mk (g j) := by
            rw [getElem!_pos _ _ (by simpa using hj)]
            simp
          obtain ⟨gl, _, gc⟩ := hg j hj
          rw [e1, hmk _ gl] at hu
          have := gc i u hu
          rw [hadd] at this
          rw [Nat.add_assoc]
          exact this
    · intro x hx
      obtain ⟨i, hi, rfl⟩ := List.mem_map.1 hx
      obtain ⟨gl, gw, _⟩ := hg i (List.mem_range.1 hi)
      exact ⟨g i, rfl, gl, gw⟩

/-- Such a value that came in by itself. -/
theorem Mp.open_flat1 {t : TypeId} {k : Nat} {fs : Array Field} (ht : P.underlying t = some (.struct fs)) (hF : FlatI P t k) {r : Reach} {b0 : Nat} {v : Value} {d : DataW H} {p : List MemPlace} (hv : Value.okWide P w r b0 t v) (h : DataW.Trod enc P w base spare held t v d p) :
    ∃ zs : List Int, zs.length = k ∧ v = .agg (zs.map (Value.int .i64)).toArray ∧ ∀ z ∈ zs, (Lit.int .i64 z).wf = true := by
  obtain ⟨cs, rfl, _⟩ := okWide_struct ht hv
  obtain ⟨fuel, hf⟩ := h
  obtain ⟨zs, hzl, he, hzw⟩ := hF hf
  refine ⟨zs, hzl, ?_, hzw⟩
  congr 1
  exact Array.toList_inj.1 he
end
end Go.Proofs
/- The arguments of the laws: a grid of heights, a line, a point. -/
set_option linter.unusedVariables false
set_option linter.unusedSimpArgs false
namespace Go.Proofs
open Go.ChangeShapes Go.WideShapes Go.ChangeAt Go.RowKit Go.Deep Go.Proofs.Mp

theorem getElem?_takeD (l : List Int) (n j : Nat) (h : j < n) (hl : n ≤ l.length) : (l.take n)[j]! = l[j]! := by
  rw [getElem!_pos (l.take n) j (by simp; omega), getElem!_pos l j (by omega), List.getElem_take]

section
variable {H : Type} {enc : TypeId × Value → H} {P : Program} {w : World} {base : Nat} {spare : Nat → Bool} {held : Bool}
theorem Mp.open_sl {t e : TypeId} (ht : P.underlying t = some (.slice e)) (he : P.underlying e = some (.int .i64)) (hC : P.cellsOf e = 1) {fuel : Nat} {cs : List Value} {x : DataW H × List MemPlace} (hf : DataW.trod enc P w base spare held fuel t cs = some x) :
    ∃ (A : Option Addr) (cap : Nat) (zs : List Int), cs = [.slice A zs.length cap] ∧ zs.length ≤ cap ∧ cap ≤ maxLen ∧ RdI w A zs := by
  rcases open_ints ht he hC hf with ⟨hcs, hx⟩ | ⟨a, len, cap, zs, hcs, hb, hl, hm, hz, hx, hcell, hwz⟩
  · exact ⟨none, 0, [], hcs, Nat.le_refl _, Nat.zero_le _, Rd.nil _⟩
  · have hlz : len ≤ zs.length := by rw [hz]; split <;> omega
    refine ⟨some a, cap, zs.take len, by rw [List.length_take, Nat.min_eq_left hlz]; exact hcs, by simp; omega, hm, ?_⟩
    by_cases h0 : len = 0
    · subst h0; exact .inl (by simp)
    · obtain ⟨b, off, spot⟩ := a
      have hc := hcell 0 (by omega)
      have hspot : spot = none := by simpa [Addr.add] using World.cell?_spot hc
      subst hspot
      have hbl : b < w.heap.size := World.block_lt_of_cell? w _ (show w.cell? ⟨b, off, none⟩ = some _ by simpa [Addr.add] using hc)
      refine .inr ⟨b, off, rfl, hbl, fun j hj i u hu => ?_⟩
      have hj' : j < len := by simp only [List.length_take] at hj; omega
      match i with
      | 0 =>
        simp only [Mp.encI, List.getElem?_cons_zero, Option.some.injEq] at hu
        subst hu
        have := hcell j (by omega)
        have e : (⟨b, off, none⟩ : Addr).add j = ⟨b, off + j, none⟩ := by
          unfold Addr.add
          split
          · rename_i h0; simp [h0]
          · rfl
        rw [e] at this
        rw [Nat.mul_one, Nat.add_zero, this]
        congr 2
        have hjz : j < zs.length := by omega
        simp [getElem!_def, hj', hjz, List.getD]
      | i + 1 => simp [Mp.encI] at hu
end
theorem flat3 : FlatI Try.prog 3 1 := FlatI.int Try.underlying3
theorem flat23 : FlatI Try.prog 23 (1 + 1) := FlatI.struct2 Try.underlying23 (by kernel_rfl) rfl rfl (by kernel_rfl) (by kernel_rfl) flat3 flat3
def mkPt (zs : List Int) : Pt := (zs[0]!, zs[1]!)
theorem encR_mk : ∀ zs : List Int, zs.length = 2 → encR (mkPt zs) = zs.map (Value.int .i64)
  | [_, _], _ => rfl
theorem aggP_mk : ∀ zs : List Int, zs.length = 2 → (.agg (zs.map (Value.int .i64)).toArray : Value) = aggP (mkPt zs)
  | [_, _], _ => rfl
section
variable {H : Type} {enc : TypeId × Value → H} {w : World} {base : Nat} {spare : Nat → Bool} {held : Bool}
set_option maxRecDepth 100000 in
theorem heights_of {fuel : Nat} {cs : List Value} {x : DataW H × List MemPlace} (h : DataW.trod enc Try.prog w base spare held fuel 26 cs = some x) :
    ∃ t : Ht, cs = (celH t).toList ∧ RdI w t.a t.v ∧ t.v.length ≤ 9223372036854775807 := by
  obtain ⟨ys, n, _, _, hlen, hys, hf⟩ := DataW.trod_struct Try.underlying26 h
  have hs : ys.length = 5 := hys
  have hl : cs.length = 6 := by rw [hlen]; kernel_rfl
  have g0 : DataW.trod enc Try.prog w base spare held n 23 ((cs.drop 0).take (Try.prog.cellsOf 23)) = ys[0]? := hf 0 _ rfl
  have g1 : DataW.trod enc Try.prog w base spare held n 3 ((cs.drop 2).take (Try.prog.cellsOf 3)) = ys[1]? := hf 1 _ rfl
  have g2 : DataW.trod enc Try.prog w base spare held n 3 ((cs.drop 3).take (Try.prog.cellsOf 3)) = ys[2]? := hf 2 _ rfl
  have g3 : DataW.trod enc Try.prog w base spare held n 3 ((cs.drop 4).take (Try.prog.cellsOf 3)) = ys[3]? := hf 3 _ rfl
  have g4 : DataW.trod enc Try.prog w base spare held n 24 ((cs.drop 5).take (Try.prog.cellsOf 24)) = ys[4]? := hf 4 _ rfl
  have c23 : Try.prog.cellsOf 23 = 2 := by kernel_rfl
  have c3 : Try.prog.cellsOf 3 = 1 := by kernel_rfl
  have c24 : Try.prog.cellsOf 24 = 1 := by kernel_rfl
  rw [List.getElem?_eq_getElem (by omega)] at g0 g1 g2 g3 g4
  rw [c23] at g0
  rw [c3] at g1 g2 g3
  rw [c24] at g4
  obtain ⟨zp, hp, hpe, _⟩ := flat23 g0
  match cs, hl with
  | [c0, c1, c2, c4, c5, c6], _ =>
    match zp, hp with
    | [p0, p1], _ =>
      obtain ⟨n1, h1, _⟩ := DataW.trod_int Try.underlying3 g1
      obtain ⟨n2, h2, _⟩ := DataW.trod_int Try.underlying3 g2
      obtain ⟨n3, h3, _⟩ := DataW.trod_int Try.underlying3 g3
      obtain ⟨A, cap, zs, h4, hzc, hcm, hR⟩ := Mp.open_sl Try.underlying24 Try.underlying3 c3 g4
      simp at hpe h1 h2 h3 h4
      obtain ⟨e0, e1⟩ := hpe
      refine ⟨⟨p0, p1, n1, n2, n3, A, cap, zs⟩, ?_, hR, ?_⟩
      · unfold celH; rw [e0, e1, h1, h2, h3, h4]
      · show zs.length ≤ _
        unfold maxLen at hcm
        omega
set_option maxRecDepth 100000 in
/-- a grid by value -/
theorem open_heights {r : Reach} {b0 : Nat} {v : Value} {d : DataW H} {p : List MemPlace} (hv : Value.okWide Try.prog w r b0 26 v) (h : DataW.Trod enc Try.prog w base spare held 26 v d p) :
    ∃ t : Ht, v = aggH t ∧ RdI w t.a t.v ∧ t.v.length ≤ 9223372036854775807 := by
  obtain ⟨cs, rfl, _⟩ := okWide_struct Try.underlying26 hv
  obtain ⟨fuel, hf⟩ := h
  obtain ⟨t, he, hr, hl⟩ := heights_of hf
  refine ⟨t, ?_, hr, hl⟩
  show Value.agg cs = .agg (celH t)
  congr 1
  exact Array.toList_inj.1 he
set_option maxRecDepth 100000 in
/-- a line by value -/
theorem open_line {r : Reach} {b0 : Nat} {v : Value} {d : DataW H} {p : List MemPlace} (hv : Value.okWide Try.prog w r b0 41 v) (h : DataW.Trod enc Try.prog w base spare held 41 v d p) :
    ∃ (lv : Int) (A : Option Addr) (xs : List Pt) (c : Nat), v = .agg #[.int .i64 lv, .slice A xs.length c] ∧ Rd 2 encR w A xs ∧ xs.length ≤ 9223372036854775807 := by
  obtain ⟨cs, rfl, _⟩ := okWide_struct Try.underlying41 hv
  obtain ⟨fuel, hf0⟩ := h
  obtain ⟨ys, n, _, _, hlen, hys, hf⟩ := DataW.trod_struct Try.underlying41 hf0
  have hs : ys.length = 2 := hys
  have hl : cs.toList.length = 2 := by
    have : (Value.agg cs).cells.toList.length = 2 := by rw [hlen]; kernel_rfl
    simpa [Value.cells] using this
  have e0 : (Value.agg cs).cells.toList = cs.toList := rfl
  rw [e0] at hf
  have g0 : DataW.trod enc Try.prog w base spare held n 3 ((cs.toList.drop 0).take (Try.prog.cellsOf 3)) = ys[0]? := hf 0 _ rfl
  have g1 : DataW.trod enc Try.prog w base spare held n 39 ((cs.toList.drop 1).take (Try.prog.cellsOf 39)) = ys[1]? := hf 1 _ rfl
  have c3 : Try.prog.cellsOf 3 = 1 := by kernel_rfl
  have c39 : Try.prog.cellsOf 39 = 1 := by kernel_rfl
  rw [List.getElem?_eq_getElem (by omega)] at g0 g1
  rw [c3] at g0
  rw [c39] at g1
  obtain ⟨n0, h0, _⟩ := DataW.trod_int Try.underlying3 g0
  have hv : ∃ A len cap, (cs.toList.drop 1).take 1 = (Value.slice A len cap).cells.toList := by
    rcases open_slice Try.underlying39 g1 with ⟨hcs, _⟩ | ⟨a, l, c, m, n, D, Pl, hcs, _⟩
    · exact ⟨none, 0, 0, hcs⟩
    · exact ⟨some a, l, c, hcs⟩
  obtain ⟨A, len, cap, he⟩ := hv
  rw [he] at g1
  obtain ⟨xs, hxl, hxc, hcm, hR, _⟩ := open_flat (d := ys[1].1) (p := ys[1].2) Try.underlying39 flat23 (by kernel_rfl) (by decide) encR mkPt encR_mk ⟨n, g1⟩
  subst hxl
  refine ⟨n0, A, xs, cap, ?_, hR, ?_⟩
  · congr 1
    apply Array.toList_inj.1
    match hq : cs.toList, hl with
    | [a, b], _ =>
      rw [hq] at h0 he
      simp [Value.cells] at h0 he
      rw [h0, he]
  · unfold maxLen at hcm; omega
end
end Go.Proofs
