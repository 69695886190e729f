/- What a row hands to a walk: four plates by value, a slice of copies. -/
import Derived.Test.YtnckglojbhlekaaW1
import Derived.Test.YtnckglojbhlekaaRows
import Derived.ProofKit
import Derived.OpenShut
import Derived.ChangeOld
import Derived.ChangeSlices
import Derived.Below
import Derived.Deep.Slices
import Derived.Deep.Fields
import Derived.ChangeSame
set_option linter.unusedVariables false
set_option linter.unusedSimpArgs false
namespace Go.Proofs
open Go.ChangeShapes Go.WideShapes Go.ChangeAt Go.RowKit Go.Deep Go.Proofs.Mp

theorem okWide_arr4 {P : Program} {r : Reach} {w : World} {b0 n : Nat} {e t : TypeId} {v : Value} (ht : P.underlying t = some (.array n e)) (h : Value.okWide P w r b0 t v) : ∃ cs, v = .agg cs ∧ cs.size = P.cellsOf t := by
  simp only [Value.okWide, ht] at h
  obtain ⟨cs, h1, h2, _⟩ := h
  exact ⟨cs, h1, h2⟩
theorem getElem?_takeD (l : List Int) (n j : Nat) (h : j < n) (hl : n ≤ l.length) : (l.take n)[j]! = l[j]! := by
  rw [getElem!_pos (l.take n) j (by simp; omega), getElem!_pos l j (by omega), List.getElem_take]

section
variable {H : Type} {enc : TypeId × Value → H} {P : Program} {w : World} {base : Nat} {spare : Nat → Bool} {held : Bool}
theorem Mp.open_sl {t e : TypeId} (ht : P.underlying t = some (.slice e)) (he : P.underlying e = some (.int .i64)) (hC : P.cellsOf e = 1) {fuel : Nat} {cs : List Value} {x : DataW H × List MemPlace} (hf : DataW.trod enc P w base spare held fuel t cs = some x) :
    ∃ (A : Option Addr) (cap : Nat) (zs : List Int), cs = [.slice A zs.length cap] ∧ zs.length ≤ cap ∧ cap ≤ maxLen ∧ RdI w A zs := by
  rcases open_ints ht he hC hf with ⟨hcs, hx⟩ | ⟨a, len, cap, zs, hcs, hb, hl, hm, hz, hx, hcell, hwz⟩
  · exact ⟨none, 0, [], hcs, Nat.le_refl _, Nat.zero_le _, Rd.nil _⟩
  · have hlz : len ≤ zs.length := by rw [hz]; split <;> omega
    refine ⟨some a, cap, zs.take len, by rw [List.length_take, Nat.min_eq_left hlz]; exact hcs, by simp; omega, hm, ?_⟩
    by_cases h0 : len = 0
    · subst h0; exact .inl (by simp)
    · obtain ⟨b, off, spot⟩ := a
      have hc := hcell 0 (by omega)
      have hspot : spot = none := by simpa [Addr.add] using World.cell?_spot hc
      subst hspot
      have hbl : b < w.heap.size := World.block_lt_of_cell? w _ (show w.cell? ⟨b, off, none⟩ = some _ by simpa [Addr.add] using hc)
      refine .inr ⟨b, off, rfl, hbl, fun j hj i u hu => ?_⟩
      have hj' : j < len := by simp only [List.length_take] at hj; omega
      match i with
      | 0 =>
        simp only [Mp.encI, List.getElem?_cons_zero, Option.some.injEq] at hu
        subst hu
        have := hcell j (by omega)
        have e : (⟨b, off, none⟩ : Addr).add j = ⟨b, off + j, none⟩ := by
          unfold Addr.add
          split
          · rename_i h0; simp [h0]
          · rfl
        rw [e] at this
        rw [Nat.mul_one, Nat.add_zero, this]
        congr 2
        have hjz : j < zs.length := by omega
        simp [getElem!_def, hj', hjz, List.getD]
      | i + 1 => simp [Mp.encI] at hu
/-- A slice of such values that came in: the list that it reads as. -/
theorem Mp.open_rows {t e : TypeId} {k : Nat} {α : Type} [Inhabited α] (ht : P.underlying t = some (.slice e)) (hC : P.cellsOf e = k) (hk : 0 < k) (encA : α → List Value) (hlen : ∀ y, (encA y).length = k) (G : α → Prop)
    (hF : ∀ {fuel : Nat} {cs : List Value} {x : DataW H × List MemPlace}, DataW.trod enc P w base spare held fuel e cs = some x → ∃ y : α, cs = encA y ∧ G y)
    {A : Option Addr} {len cap : Nat} {d : DataW H} {p : List MemPlace} (h : DataW.Trod enc P w base spare held t (.slice A len cap) d p) :
    ∃ xs : List α, xs.length = len ∧ len ≤ cap ∧ cap ≤ maxLen ∧ Rd k encA w A xs ∧ ∀ x ∈ xs, G x := by
  obtain ⟨fuel, hf⟩ := h
  rcases open_slice ht hf with ⟨hcs, hx⟩ | ⟨a, l, c, m, n, D, Pl, hcs, hb, hl, hm, hmm, hx, hi⟩
  · simp [Value.cells] at hcs
    obtain ⟨rfl, rfl, rfl⟩ := hcs
    exact ⟨[], rfl, Nat.le_refl _, Nat.zero_le _, Rd.nil _, by simp⟩
  · simp [Value.cells] at hcs
    obtain ⟨rfl, rfl, rfl⟩ := hcs
    have hlm : len ≤ m := by rw [hmm]; split <;> omega
    have key : ∀ i, i < len → ∃ y : α, G y ∧ ∀ j v, (encA y)[j]? = some v → w.cell? (a.add (i * k + j)) = some v := by
      intro i hil
      obtain ⟨cs', hc, ht'⟩ := hi i (by omega)
      obtain ⟨y, rfl, hy⟩ := hF ht'
      obtain ⟨_, hcl, hat⟩ := World.cells?_some hc
      refine ⟨y, hy, fun j v hv => ?_⟩
      have hj : j < k := by have := (List.getElem?_eq_some_iff.1 hv).1; rw [hlen] at this; exact this
      have := hat j (by omega)
      rw [hC] at this
      rw [Go.Deep.add_add] at this
      rw [this]
      exact hv
    obtain ⟨g, hg⟩ : ∃ g : Nat → α, ∀ i, i < len → G (g i) ∧ ∀ j v, (encA (g i))[j]? = some v → w.cell? (a.add (i * k + j)) = some v := by
      refine ⟨fun i => if h : i < len then (key i h).choose else default, fun i h => ?_⟩
      simp only [h, dif_pos]
      exact (key i h).choose_spec
    refine ⟨(List.range len).map g, by simp, hl, hm, ?_, ?_⟩
    · by_cases h0 : len = 0
      · left; simp [h0]
      · obtain ⟨b, off, spot⟩ := a
        obtain ⟨_, g0⟩ := hg 0 (by omega)
        have hc0 := g0 0 _ (List.getElem?_eq_getElem (by rw [hlen]; omega))
        have hspot : spot = none := by simpa [Addr.add] using World.cell?_spot hc0
        subst hspot
        have hadd : ∀ n, (⟨b, off, none⟩ : Addr).add n = ⟨b, off + n, none⟩ := fun n => by
          unfold Addr.add
          split
          · simp_all
          · rfl
        refine .inr ⟨b, off, rfl, ?_, fun j hj i u hu => ?_⟩
        · rw [hadd] at hc0
          exact World.block_lt_of_cell? w _ hc0
        · simp only [List.length_map, List.length_range] at hj
          have e1 : ((List.range len).map g)[j]! = g j := by
            rw [getElem!_pos _ _ (by simpa using hj)]
            simp
          obtain ⟨_, gc⟩ := hg j hj
          rw [e1] at hu
          have := gc i u hu
          rw [hadd] at this
          rw [Nat.add_assoc]
          exact this
    · intro x hx
      obtain ⟨i, hi, rfl⟩ := List.mem_map.1 hx
      exact (hg i (List.mem_range.1 hi)).1
end
section
variable {H : Type} {enc : TypeId × Value → H} {w : World} {base : Nat} {spare : Nat → Bool} {held : Bool}
def encP (p : Pl) : List Value := [.int .i64 p.w, .int .i64 p.h, .slice p.a p.v.length p.c]
set_option maxRecDepth 100000 in
theorem plate_of {fuel : Nat} {cs : List Value} {x : DataW H × List MemPlace} (h : DataW.trod enc Try.prog w base spare held fuel 24 cs = some x) :
    ∃ p : Pl, cs = encP p ∧ RdI w p.a p.v ∧ p.v.length ≤ 9223372036854775807 := by
  obtain ⟨ys, n, _, _, hlen, hys, hf⟩ := DataW.trod_struct Try.underlying24 h
  have hs : ys.length = 3 := hys
  have hl : cs.length = 3 := by rw [hlen]; kernel_rfl
  have g0 : DataW.trod enc Try.prog w base spare held n 3 ((cs.drop 0).take (Try.prog.cellsOf 3)) = ys[0]? := hf 0 _ rfl
  have g1 : DataW.trod enc Try.prog w base spare held n 3 ((cs.drop 1).take (Try.prog.cellsOf 3)) = ys[1]? := hf 1 _ rfl
  have g2 : DataW.trod enc Try.prog w base spare held n 22 ((cs.drop 2).take (Try.prog.cellsOf 22)) = ys[2]? := hf 2 _ rfl
  have c3 : Try.prog.cellsOf 3 = 1 := by kernel_rfl
  have c22 : Try.prog.cellsOf 22 = 1 := by kernel_rfl
  rw [List.getElem?_eq_getElem (by omega)] at g0 g1 g2
  rw [c3] at g0 g1
  rw [c22] at g2
  match cs, hl with
  | [a, b, c], _ =>
    obtain ⟨n0, h0, _⟩ := DataW.trod_int Try.underlying3 g0
    obtain ⟨n1, h1, _⟩ := DataW.trod_int Try.underlying3 g1
    obtain ⟨A, cap, zs, h2, hzc, hcm, hR⟩ := Mp.open_sl Try.underlying22 Try.underlying3 c3 g2
    simp at h0 h1 h2
    refine ⟨⟨n0, n1, A, cap, zs⟩, ?_, hR, ?_⟩
    · unfold encP; rw [h0, h1, h2]
    · show zs.length ≤ _
      unfold maxLen at hcm
      omega
def four (p q r s : Pl) : P4 := ⟨p, q, r, s⟩
set_option maxRecDepth 100000 in
theorem few_four {p q r s : Pl} {N : Nat} (f0 : p.v.length ≤ N) (f1 : q.v.length ≤ N) (f2 : r.v.length ≤ N) (f3 : s.v.length ≤ N) : Few4 (four p q r s) N := by
  intro j
  rcases j with _ | _ | _ | j
  · exact f0
  · exact f1
  · exact f2
  · exact f3
set_option maxRecDepth 100000 in
theorem plates_of {fuel : Nat} {cs : List Value} {x : DataW H × List MemPlace} (h : DataW.trod enc Try.prog w base spare held fuel 25 cs = some x) :
    ∃ y : P4, cs = cells4 y ∧ Rd4 w y ∧ Few4 y 9223372036854775807 := by
  obtain ⟨ys, n, _, _, hlen, hys, hf⟩ := DataW.trod_array Try.underlying25 h
  have hl : cs.length = 12 := by rw [hlen]; kernel_rfl
  have c24 : Try.prog.cellsOf 24 = 3 := by kernel_rfl
  have g0 := hf 0 (by omega)
  have g1 := hf 1 (by omega)
  have g2 := hf 2 (by omega)
  have g3 := hf 3 (by omega)
  rw [c24, List.getElem?_eq_getElem (by omega)] at g0 g1 g2 g3
  obtain ⟨p0, e0, r0, f0⟩ := plate_of g0
  obtain ⟨p1, e1, r1, f1⟩ := plate_of g1
  obtain ⟨p2, e2, r2, f2⟩ := plate_of g2
  obtain ⟨p3, e3, r3, f3⟩ := plate_of g3
  refine ⟨four p0 p1 p2 p3, ?_, ?_, ?_⟩
  · have h4 : cs.drop 9 = encP p3 := by rw [← e3, List.take_of_length_le (by simp; omega)]
    have h3 : cs.drop 6 = encP p2 ++ encP p3 := by rw [← e2, ← h4, show cs.drop 9 = (cs.drop 6).drop 3 by rw [List.drop_drop], List.take_append_drop]
    have h2 : cs.drop 3 = encP p1 ++ (encP p2 ++ encP p3) := by rw [← e1, ← h3, show cs.drop 6 = (cs.drop 3).drop 3 by rw [List.drop_drop], Nat.one_mul, List.take_append_drop]
    have h1 : cs = encP p0 ++ (encP p1 ++ (encP p2 ++ encP p3)) := by rw [← e0, ← h2, Nat.zero_mul, List.drop_zero, List.take_append_drop]
    rw [h1]; rfl
  · intro j
    rcases j with _ | _ | _ | j
    · exact r0
    · exact r1
    · exact r2
    · exact r3
  · exact few_four f0 f1 f2 f3
set_option maxRecDepth 100000 in
theorem copy_of {fuel : Nat} {cs : List Value} {x : DataW H × List MemPlace} (h : DataW.trod enc Try.prog w base spare held fuel 79 cs = some x) :
    ∃ y : Pd, cs = encC y ∧ (Few4 y.p 9223372036854775807 ∧ Rd4 w y.p) := by
  obtain ⟨ys, n, _, _, hlen, hys, hf⟩ := DataW.trod_struct Try.underlying79 h
  have hs : ys.length = 2 := hys
  have hl : cs.length = 13 := by rw [hlen]; kernel_rfl
  have g0 : DataW.trod enc Try.prog w base spare held n 3 ((cs.drop 0).take (Try.prog.cellsOf 3)) = ys[0]? := hf 0 _ rfl
  have g1 : DataW.trod enc Try.prog w base spare held n 25 ((cs.drop 1).take (Try.prog.cellsOf 25)) = ys[1]? := hf 1 _ rfl
  have c3 : Try.prog.cellsOf 3 = 1 := by kernel_rfl
  have c25 : Try.prog.cellsOf 25 = 12 := by kernel_rfl
  rw [List.getElem?_eq_getElem (by omega)] at g0 g1
  rw [c3] at g0
  rw [c25, List.take_of_length_le (by simp; omega)] at g1
  obtain ⟨n0, h0, _⟩ := DataW.trod_int Try.underlying3 g0
  obtain ⟨y, h1, hr, hf4⟩ := plates_of g1
  refine ⟨⟨n0, y⟩, ?_, hf4, hr⟩
  show cs = .int .i64 n0 :: cells4 y
  rw [← h1]
  match cs, hl with
  | a :: l, _ => simp at h0; rw [h0]; rfl
set_option maxRecDepth 100000 in
/-- four plates by value -/
theorem open_plates {r : Reach} {b0 : Nat} {v : Value} {d : DataW H} {p : List MemPlace} (hv : Value.okWide Try.prog w r b0 25 v) (h : DataW.Trod enc Try.prog w base spare held 25 v d p) :
    ∃ y : P4, v = agg4 y ∧ Rd4 w y ∧ Few4 y 9223372036854775807 := by
  obtain ⟨cs, rfl, _⟩ := okWide_arr4 Try.underlying25 hv
  obtain ⟨fuel, hf⟩ := h
  obtain ⟨y, he, hr, hf4⟩ := plates_of hf
  refine ⟨y, ?_, hr, hf4⟩
  show Value.agg cs = .agg (cells4 y).toArray
  congr 1
  exact Array.toList_inj.1 he
set_option maxRecDepth 100000 in
theorem open_copies {A : Option Addr} {len cap : Nat} {d : DataW H} {p : List MemPlace} (h : DataW.Trod enc Try.prog w base spare held 39 (.slice A len cap) d p) :
    ∃ xs : List Pd, xs.length = len ∧ xs.length ≤ 9223372036854775807 ∧ SlC w (.slice A len cap) xs := by
  obtain ⟨xs, hl, hc, hm, hR, hG⟩ := Mp.open_rows Try.underlying39 (by kernel_rfl) (show 0 < 13 by omega) encC encC_len (fun y => Few4 y.p 9223372036854775807 ∧ Rd4 w y.p) (fun h => copy_of h) h
  unfold maxLen at hm
  exact ⟨xs, hl, by omega, A, cap, by rw [hl], by omega, hR, hG⟩
end
end Go.Proofs
