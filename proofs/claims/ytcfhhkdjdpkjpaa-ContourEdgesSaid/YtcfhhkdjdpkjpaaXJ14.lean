/- Plain: where a crossing point lies. No program is named here. -/
import Derived.Test.YtcfhhkdjdpkjpaaXJ11
import Derived.Test.YtcfhhkdjdpkjpaaXJ3
set_option linter.unusedVariables false
set_option linter.unusedSimpArgs false
namespace Go.Proofs
open Go.RowKit Go.Proofs.Mp Go.Lib

theorem rnd_in {n s d : Int} (hd : 0 < d) (h0 : 0 ≤ n) (h1 : n ≤ s * d) : 0 ≤ rnd n d ∧ rnd n d ≤ s := by
  obtain ⟨g1, g2⟩ := flo_spec (a := 2 * n + d) (b := 2 * d) (by omega)
  unfold rnd
  generalize flo (2 * n + d) (2 * d) = q at *
  rw [Int.mul_comm s d] at h1
  constructor
  · have : 2 * d * 0 < 2 * d * (q + 1) := by omega
    have := Int.lt_of_mul_lt_mul_left this (by omega)
    omega
  · have : 2 * d * q < 2 * d * (s + 1) := by rw [Int.mul_add (2 * d) s 1, Int.mul_assoc 2 d s]; omega
    have := Int.lt_of_mul_lt_mul_left this (by omega)
    omega
theorem rnd_ni {n s d : Int} (hd : 0 < d) (h0 : -(s * d) ≤ n) (h1 : n ≤ 0) : -s ≤ rnd n d ∧ rnd n d ≤ 0 := by
  obtain ⟨g1, g2⟩ := flo_spec (a := 2 * n + d) (b := 2 * d) (by omega)
  unfold rnd
  generalize flo (2 * n + d) (2 * d) = q at *
  rw [Int.mul_comm s d] at h0
  constructor
  · have : 2 * d * (-s) < 2 * d * (q + 1) := by rw [Int.mul_neg, Int.mul_assoc 2 d s]; omega
    have := Int.lt_of_mul_lt_mul_left this (by omega)
    omega
  · have : 2 * d * q < 2 * d * 1 := by omega
    have := Int.lt_of_mul_lt_mul_left this (by omega)
    omega
theorem rnd_zero {d : Int} (hd : 0 < d) : rnd 0 d = 0 := by
  have := rnd_in (n := 0) (s := 0) hd (by omega) (by omega)
  omega
/-- the crossing point of an edge, from the edge's first end -/
theorem pt_form {t : Ht} {W H e : Nat} {level : Int} (g : Grd t W H) (he : crsB (abv t level) W H e = true) :
    ∃ k : Int, 0 ≤ k ∧ k ≤ t.st ∧ ptE t W level e = (t.x + ((e / 3 % W : Nat) : Int) * t.st + (if e % 3 = 1 then 0 else k), t.y + ((e / 3 / W : Nat) : Int) * t.st + (if e % 3 = 0 then 0 else k)) := by
  have hisE : isE W H e = true := by unfold crsB at he; rw [Bool.and_eq_true] at he; exact he.1
  obtain ⟨_, _, hlo, hhi⟩ := crs_ends g he
  obtain ⟨_, _, _, _, _, _, hs, _⟩ := g.all
  rw [ptE_ref g hisE]
  generalize t.v[loE t W level e]! = u at *
  generalize t.v[hiE t W level e]! = v at *
  have h3 : e % 3 < 3 := Nat.mod_lt _ (by omega)
  have hd : 0 < v - u := by omega
  have b0 : 0 ≤ t.st * (level - u) := Int.mul_nonneg (by omega) (by omega)
  have b1 : t.st * (level - u) ≤ t.st * (v - u) := Int.mul_le_mul_of_nonneg_left (by omega) (by omega)
  have i1 := rnd_in hd b0 b1
  have i2 := rnd_ni (n := -(t.st * (level - u))) (s := t.st) hd (by omega) (by omega)
  have i0 := rnd_zero hd
  have e1 : ∀ a : Int, (a + 1 - a) * t.st * (level - u) = t.st * (level - u) := fun a => by rw [show a + 1 - a = 1 by omega, Int.one_mul]
  have e2 : ∀ a : Int, (a - (a + 1)) * t.st * (level - u) = -(t.st * (level - u)) := fun a => by rw [show a - (a + 1) = -1 by omega, Int.mul_assoc]; omega
  have e0 : ∀ a : Int, (a - a) * t.st * (level - u) = 0 := fun a => by rw [Int.sub_self, Int.zero_mul, Int.zero_mul]
  have em : ∀ a : Int, (a + 1) * t.st = a * t.st + t.st := fun a => by rw [Int.add_mul, Int.one_mul]
  unfold pLo pHi eA eB
  by_cases hab : level ≤ t.v[e / 3]!
  · rw [if_pos hab, if_pos hab]
    refine ⟨t.st + rnd (-(t.st * (level - u))) (v - u), by omega, by omega, ?_⟩
    rcases (by omega : e % 3 = 0 ∨ e % 3 = 1 ∨ e % 3 = 2) with q | q | q <;> simp only [q] <;> simp [e1, e2, e0, i0, em] <;> omega
  · rw [if_neg hab, if_neg hab]
    refine ⟨rnd (t.st * (level - u)) (v - u), i1.1, i1.2, ?_⟩
    rcases (by omega : e % 3 = 0 ∨ e % 3 = 1 ∨ e % 3 = 2) with q | q | q <;> simp only [q] <;> simp [e1, e2, e0, i0, em]
end Go.Proofs
/- Plain: crossed edges that no step enters, or leaves, lie on the boundary; what the lines' points are. No program is named here. -/
set_option linter.unusedVariables false
set_option linter.unusedSimpArgs false
namespace Go.Proofs
open Go.RowKit Go.Proofs.Mp Go.Lib

/-- an edge of the boundary -/
def bdE (W H e : Nat) : Prop := (e % 3 = 0 ∧ (e / 3 / W = 0 ∨ e / 3 / W + 1 = H)) ∨ (e % 3 = 1 ∧ (e / 3 % W = 0 ∨ e / 3 % W + 1 = W))
theorem tri_p {A B C : Bool} {p q r : Nat} (h : (A != B) = true) : (A = true → ∃ z, (p, z) ∈ triS A B C p q r) ∧ (A = false → ∃ z, (z, p) ∈ triS A B C p q r) := by
  revert h; cases A <;> cases B <;> cases C <;> simp [triS]
theorem tri_q {A B C : Bool} {p q r : Nat} (h : (B != C) = true) : (B = true → ∃ z, (q, z) ∈ triS A B C p q r) ∧ (B = false → ∃ z, (z, q) ∈ triS A B C p q r) := by
  revert h; cases A <;> cases B <;> cases C <;> simp [triS]
theorem tri_r {A B C : Bool} {p q r : Nat} (h : (C != A) = true) : (C = true → ∃ z, (r, z) ∈ triS A B C p q r) ∧ (C = false → ∃ z, (z, r) ∈ triS A B C p q r) := by
  revert h; cases A <;> cases B <;> cases C <;> simp [triS]
/-- both triangles of a crossed edge that is not on the boundary -/
theorem both_steps {ab : Nat → Bool} {W H e : Nat} (hW : 1 ≤ W) (he : crsB ab W H e = true) (hb : ¬ bdE W H e) : (∃ z, (e, z) ∈ stepsL ab W H) ∧ ∃ z, (z, e) ∈ stepsL ab W H := by
  have hisE : isE W H e = true := by unfold crsB at he; rw [Bool.and_eq_true] at he; exact he.1
  have h3 : e % 3 < 3 := Nat.mod_lt _ (by omega)
  have hc : e / 3 % W < W := Nat.mod_lt _ (by omega)
  have hi := Nat.div_add_mod' (e / 3) W
  have hq := Nat.div_add_mod e 3
  unfold bdE at hb
  have hE := hisE
  unfold isE at hE
  rw [Bool.and_eq_true, decide_eq_true_eq] at hE
  generalize e / 3 / W = r at *
  generalize e / 3 % W = c at *
  obtain ⟨h1, h2⟩ := hE
  rcases (by omega : e % 3 = 0 ∨ e % 3 = 1 ∨ e % 3 = 2) with q | q | q <;> rw [q] at h2 hb hq
  · simp at h2 hb
    obtain rfl : e = 3 * (r * W + c) := by omega
    rw [crs0 hisE] at he
    have m1 : ∀ p, p ∈ lowS ab W (r * W + c) → p ∈ stepsL ab W H := fun p hp => steps_mem.2 ⟨r, c, by omega, by omega, .inl hp⟩
    have m2 : ∀ p, p ∈ uppS ab W ((r - 1) * W + c) → p ∈ stepsL ab W H := fun p hp => steps_mem.2 ⟨r - 1, c, by omega, by omega, .inr hp⟩
    have e1 : (r - 1) * W + c + W = r * W + c := by rw [cell_up, Nat.sub_add_cancel (by omega)]
    unfold uppS at m2
    rw [show (r - 1) * W + c + W + 1 = r * W + c + 1 by omega, e1] at m2
    unfold lowS at m1
    have he' : (ab (r * W + c + 1) != ab (r * W + c)) = true := by rw [bne_comm]; exact he
    have t1 := tri_p (C := ab (r * W + c + W + 1)) (p := 3 * (r * W + c)) (q := 3 * (r * W + c + 1) + 1) (r := 3 * (r * W + c) + 2) he
    have t2 := tri_q (A := ab ((r - 1) * W + c)) (p := 3 * ((r - 1) * W + c) + 2) (q := 3 * (r * W + c)) (r := 3 * ((r - 1) * W + c) + 1) he'
    rcases hA : ab (r * W + c) with _ | _ <;> rcases hB : ab (r * W + c + 1) with _ | _ <;> rw [hA, hB] at he t1 t2 m1 m2
    · cases he
    · obtain ⟨z, hz⟩ := t1.2 rfl
      obtain ⟨y, hy⟩ := t2.1 rfl
      exact ⟨⟨y, m2 _ hy⟩, ⟨z, m1 _ hz⟩⟩
    · obtain ⟨z, hz⟩ := t1.1 rfl
      obtain ⟨y, hy⟩ := t2.2 rfl
      exact ⟨⟨z, m1 _ hz⟩, ⟨y, m2 _ hy⟩⟩
    · cases he
  · simp at h2 hb
    obtain rfl : e = 3 * (r * W + c) + 1 := by omega
    rw [crs1 hisE] at he
    have m1 : ∀ p, p ∈ uppS ab W (r * W + c) → p ∈ stepsL ab W H := fun p hp => steps_mem.2 ⟨r, c, by omega, by omega, .inr hp⟩
    have m2 : ∀ p, p ∈ lowS ab W (r * W + (c - 1)) → p ∈ stepsL ab W H := fun p hp => steps_mem.2 ⟨r, c - 1, by omega, by omega, .inl hp⟩
    have e1 : r * W + (c - 1) + 1 = r * W + c := by omega
    unfold lowS at m2
    rw [show r * W + (c - 1) + W + 1 = r * W + c + W by omega, e1] at m2
    unfold uppS at m1
    have he' : (ab (r * W + c + W) != ab (r * W + c)) = true := by rw [bne_comm]; exact he
    have t1 := tri_r (B := ab (r * W + c + W + 1)) (p := 3 * (r * W + c) + 2) (q := 3 * (r * W + c + W)) (r := 3 * (r * W + c) + 1) he'
    have t2 := tri_q (A := ab (r * W + (c - 1))) (p := 3 * (r * W + (c - 1))) (q := 3 * (r * W + c) + 1) (r := 3 * (r * W + (c - 1)) + 2) he
    rcases hA : ab (r * W + c) with _ | _ <;> rcases hB : ab (r * W + c + W) with _ | _ <;> rw [hA, hB] at he t1 t2 m1 m2
    · cases he
    · obtain ⟨z, hz⟩ := t1.1 rfl
      obtain ⟨y, hy⟩ := t2.2 rfl
      exact ⟨⟨z, m1 _ hz⟩, ⟨y, m2 _ hy⟩⟩
    · obtain ⟨z, hz⟩ := t1.2 rfl
      obtain ⟨y, hy⟩ := t2.1 rfl
      exact ⟨⟨y, m2 _ hy⟩, ⟨z, m1 _ hz⟩⟩
    · cases he
  · simp at h2
    obtain rfl : e = 3 * (r * W + c) + 2 := by omega
    rw [crs2 hisE, show r * W + c + (W + 1) = r * W + c + W + 1 by omega] at he
    have m1 : ∀ p, p ∈ lowS ab W (r * W + c) → p ∈ stepsL ab W H := fun p hp => steps_mem.2 ⟨r, c, by omega, by omega, .inl hp⟩
    have m2 : ∀ p, p ∈ uppS ab W (r * W + c) → p ∈ stepsL ab W H := fun p hp => steps_mem.2 ⟨r, c, by omega, by omega, .inr hp⟩
    unfold lowS at m1
    unfold uppS at m2
    have he' : (ab (r * W + c + W + 1) != ab (r * W + c)) = true := by rw [bne_comm]; exact he
    have t1 := tri_r (B := ab (r * W + c + 1)) (p := 3 * (r * W + c)) (q := 3 * (r * W + c + 1) + 1) (r := 3 * (r * W + c) + 2) he'
    have t2 := tri_p (C := ab (r * W + c + W)) (p := 3 * (r * W + c) + 2) (q := 3 * (r * W + c + W)) (r := 3 * (r * W + c) + 1) he
    rcases hA : ab (r * W + c) with _ | _ <;> rcases hB : ab (r * W + c + W + 1) with _ | _ <;> rw [hA, hB] at he t1 t2 m1 m2
    · cases he
    · obtain ⟨z, hz⟩ := t1.1 rfl
      obtain ⟨y, hy⟩ := t2.2 rfl
      exact ⟨⟨z, m1 _ hz⟩, ⟨y, m2 _ hy⟩⟩
    · obtain ⟨z, hz⟩ := t1.2 rfl
      obtain ⟨y, hy⟩ := t2.1 rfl
      exact ⟨⟨y, m2 _ hy⟩, ⟨z, m1 _ hz⟩⟩
    · cases he
/-- the boundary's crossing points -/
def onBd (t : Ht) (P : Pt) : Prop := P.1 = t.x ∨ P.1 = farX t ∨ P.2 = t.y ∨ P.2 = farY t
theorem bd_pt {t : Ht} {W H e : Nat} {level : Int} (g : Grd t W H) (he : crsB (abv t level) W H e = true) (hb : bdE W H e) : onBd t (ptE t W level e) := by
  obtain ⟨k, _, _, hk⟩ := pt_form g he
  rw [hk]
  unfold onBd farX farY
  rw [g.w, g.h]
  dsimp only
  rcases hb with ⟨h1, h2 | h2⟩ | ⟨h1, h2 | h2⟩
  · right; right; left; rw [h1, h2]; simp
  · right; right; right
    rw [h1, if_pos rfl, Int.add_zero, show ((H : Int) - 1) = ((e / 3 / W : Nat) : Int) by omega]
  · left; rw [h1, h2]; simp
  · right; left
    rw [h1, if_pos rfl, Int.add_zero, show ((W : Int) - 1) = ((e / 3 % W : Nat) : Int) by omega]
/-- the points of the compacted list -/
theorem cmpTo_mem {xs : List Pt} : ∀ {k}, k ≤ xs.length → ∀ {P}, P ∈ cmpTo xs k → P ∈ xs
  | 0, _, P, h => by rw [cmpTo_zero] at h; cases h
  | k + 1, hk, P, h => by
    rw [cmpTo_succ] at h
    rcases List.mem_append.1 h with h | h
    · exact cmpTo_mem (by omega) h
    · split at h
      · rw [List.mem_singleton] at h
        rw [h, getElem!_pos xs k (by omega)]
        exact List.getElem_mem _
      · cases h
theorem cmpL_mem {xs : List Pt} {P : Pt} (h : P ∈ cmpL xs) : P ∈ xs := by rw [← cmpTo_all] at h; exact cmpTo_mem (Nat.le_refl _) h
theorem cmpTo_first {xs : List Pt} : ∀ {k}, 1 ≤ k → (cmpTo xs k)[0]! = xs[0]!
  | 0, h => by omega
  | 1, _ => by rw [cmpTo_one]; rfl
  | k + 2, _ => by
    rw [cmpTo_succ, getApp1 (cmpTo_last xs (k + 1) (by omega)).1, cmpTo_first (k := k + 1) (by omega)]
theorem cmpL_first {xs : List Pt} (h : 1 ≤ xs.length) : (cmpL xs)[0]! = xs[0]! := by rw [← cmpTo_all]; exact cmpTo_first h
theorem cmpL_last {xs : List Pt} (h : 1 ≤ xs.length) : 1 ≤ (cmpL xs).length ∧ (cmpL xs)[(cmpL xs).length - 1]! = xs[xs.length - 1]! := by rw [← cmpTo_all]; exact cmpTo_last xs _ h
theorem map_get {f : Nat → Pt} {c : List Nat} {i : Nat} (h : i < c.length) : (c.map f)[i]! = f c[i]! := by
  rw [getElem!_pos _ _ (by simpa using h), getElem!_pos c i h, List.getElem_map]
/-- a line comes from a chain -/
theorem line_chain {f : Nat → Pt} {lv : Int} {cs : List (List Nat)} {l : Ln} (h : l ∈ linesOf f lv cs) : ∃ c ∈ cs, l = (lv, cmpL (c.map f)) ∧ 1 < (cmpL (c.map f)).length := by
  unfold linesOf at h
  rw [List.mem_flatMap] at h
  obtain ⟨c, hc, hl⟩ := h
  unfold lineOf at hl
  split at hl
  · rename_i h1
    rw [List.mem_singleton] at hl
    exact ⟨c, hc, hl, h1⟩
  · cases hl
theorem chain_of {S : List (Nat × Nat)} {N : Nat} {c : List Nat} (h : c ∈ chainsL S N) : ∃ e, repB S e = true ∧ c = chain S e := by
  unfold chainsL at h
  rw [List.mem_map] at h
  obtain ⟨e, he, rfl⟩ := h
  exact ⟨e, (List.mem_filter.1 he).2, rfl⟩
/-- the last edge of a chain that comes home, or does not -/
theorem chain_ends {S : List (Nat × Nat)} (hS : Inj S) (e : Nat) : (∃ j, 1 ≤ (chain S e).length ∧ (chain S e)[(chain S e).length - 1]! = j ∧ (j = e ∨ nx S j = none)) := by
  obtain ⟨j, c, hc, hn, hl, hk | hk⟩ := chain_cases hS e
  · refine ⟨c, ?_, ?_, .inr hk⟩
    · rw [chain_end hS hc hn hk, wayL_len]; omega
    · rw [chain_end hS hc hn hk, wayL_len, getElem!_def, wayL_get (by omega), Nat.add_sub_cancel, hc]; rfl
  · have hj1 : itr S e (j + 1) = some e := itr_succ.2 ⟨c, hc, hk⟩
    refine ⟨e, ?_, ?_, .inl rfl⟩
    · rw [chain_home hS hc hn hk, wayL_len]; omega
    · rw [chain_home hS hc hn hk, wayL_len, getElem!_def, wayL_get (by omega), Nat.add_sub_cancel, hj1]; rfl
/-- what ContourEdges asks of a line -/
theorem edges_law {t : Ht} {W H : Nat} {level : Int} (g : Grd t W H) {l : Ln} (h : l ∈ linesL t W H level) :
    l.1 = level ∧ 2 ≤ l.2.length ∧ (∀ P ∈ l.2, ∃ e ∈ crsL (abv t level) W H, ptE t W level e = P) ∧ (l.2[0]! = l.2[l.2.length - 1]! ∨ (onBd t l.2[0]! ∧ onBd t l.2[l.2.length - 1]!)) := by
  have hW := g.all.1
  have hS := steps_inj (ab := abv t level) (H := H) (show 1 ≤ W by omega)
  obtain ⟨c, hc, rfl, hlen⟩ := line_chain h
  have hcr : ∀ n ∈ c, crsB (abv t level) W H n = true := fun n hn => chain_crs (by omega) hc hn
  refine ⟨rfl, hlen, fun P hP => ?_, ?_⟩
  · obtain ⟨e, he, rfl⟩ := List.mem_map.1 (cmpL_mem hP)
    refine ⟨e, ?_, rfl⟩
    exact List.mem_filter.2 ⟨List.mem_range.2 (crs_lt (hcr e he)), hcr e he⟩
  · obtain ⟨e, he, rfl⟩ := chain_of hc
    obtain ⟨j, h1, h2, h3⟩ := chain_ends hS e
    have hl : 1 ≤ ((chain (stepsL (abv t level) W H) e).map (ptE t W level)).length := by rw [List.length_map]; exact h1
    dsimp only
    rw [cmpL_first hl, (cmpL_last hl).2, List.length_map, map_get (by omega), map_get (by omega), h2, chain_head]
    have me : e ∈ chain (stepsL (abv t level) W H) e := by unfold chain; exact List.mem_cons_self
    have mj : j ∈ chain (stepsL (abv t level) W H) e := by
      rw [← h2, getElem!_pos _ _ (by omega)]
      exact List.getElem_mem _
    rcases h3 with rfl | h3
    · exact .inl rfl
    · right
      refine ⟨?_, ?_⟩
      · unfold repB at he
        rw [Bool.or_eq_true] at he
        rcases he with he | he
        · refine bd_pt g (hcr e me) (Classical.byContradiction fun hb => ?_)
          obtain ⟨_, z, hz⟩ := both_steps (show 1 ≤ W by omega) (hcr e me) hb
          have := (ran_iff hS).2 ⟨z, (nx_mem hS).2 hz⟩
          rw [(start_split.1 he).2] at this
          cases this
        · exfalso
          obtain ⟨hh, _⟩ := (cycB_iff hS).1 he
          have hj := (hh.fwd ((chain_mem hS).1 mj)).dom
          unfold Mp.dom at hj
          rw [h3] at hj
          cases hj
      · refine bd_pt g (hcr j mj) (Classical.byContradiction fun hb => ?_)
        obtain ⟨⟨z, hz⟩, _⟩ := both_steps (show 1 ≤ W by omega) (hcr j mj) hb
        have := (nx_mem hS).2 hz
        rw [h3] at this
        cases this
end Go.Proofs
/- Plain: how often the lines in a row of cells cross the row to the east of a grid point. No program is named here. -/
set_option linter.unusedVariables false
set_option linter.unusedSimpArgs false
namespace Go.Proofs
open Go.RowKit Go.Proofs.Mp Go.Lib

/-- a point in the cell of column c and row r: u to the east, v to the north -/
def inC (t : Ht) (c r : Nat) (u v : Int) (P : Pt) : Prop := P = (t.x + (c : Int) * t.st + u, t.y + (r : Int) * t.st + v)
def lowT (s u v : Int) : Prop := 0 ≤ v ∧ v ≤ u ∧ u ≤ s
def uppT (s u v : Int) : Prop := 0 ≤ u ∧ u ≤ v ∧ v ≤ s
theorem sst (a : Nat) (s : Int) : ((a + 1 : Nat) : Int) * s = (a : Int) * s + s := by
  rw [show (((a + 1 : Nat)) : Int) = (a : Int) + 1 by omega, Int.add_mul, Int.one_mul]
section
variable {t : Ht} {W H r c : Nat} {level : Int}
theorem pt_e0 (g : Grd t W H) (hc : c < W) (he : crsB (abv t level) W H (3 * (r * W + c)) = true) : ∃ k, 0 ≤ k ∧ k ≤ t.st ∧ inC t c r k 0 (ptE t W level (3 * (r * W + c))) := by
  obtain ⟨k, h1, h2, h3⟩ := pt_form g he
  rw [(n30 _).1, (n30 _).2, (cell_rc hc).1, (cell_rc hc).2] at h3
  exact ⟨k, h1, h2, h3⟩
theorem pt_e1 (g : Grd t W H) (hc : c < W) (he : crsB (abv t level) W H (3 * (r * W + c) + 1) = true) : ∃ k, 0 ≤ k ∧ k ≤ t.st ∧ inC t c r 0 k (ptE t W level (3 * (r * W + c) + 1)) := by
  obtain ⟨k, h1, h2, h3⟩ := pt_form g he
  rw [(n31 _).1, (n31 _).2, (cell_rc hc).1, (cell_rc hc).2] at h3
  exact ⟨k, h1, h2, h3⟩
theorem pt_e2 (g : Grd t W H) (hc : c < W) (he : crsB (abv t level) W H (3 * (r * W + c) + 2) = true) : ∃ k, 0 ≤ k ∧ k ≤ t.st ∧ inC t c r k k (ptE t W level (3 * (r * W + c) + 2)) := by
  obtain ⟨k, h1, h2, h3⟩ := pt_form g he
  rw [(n32 _).1, (n32 _).2, (cell_rc hc).1, (cell_rc hc).2] at h3
  exact ⟨k, h1, h2, h3⟩
theorem low_pt (g : Grd t W H) (hr : r + 1 < H) (hc : c + 1 < W) {s : Nat × Nat} (h : s ∈ lowS (abv t level) W (r * W + c)) {e : Nat} (he : e = s.1 ∨ e = s.2) : ∃ u v, lowT t.st u v ∧ inC t c r u v (ptE t W level e) := by
  obtain ⟨h1, h2⟩ := low_crs (H := H) hr hc h
  have hcr : crsB (abv t level) W H e = true := by rcases he with rfl | rfl <;> assumption
  obtain ⟨m1, m2⟩ := tri_mem h
  have hm : e = 3 * (r * W + c) ∨ e = 3 * (r * W + (c + 1)) + 1 ∨ e = 3 * (r * W + c) + 2 := by
    rw [← Nat.add_assoc]; rcases he with rfl | rfl <;> assumption
  rcases hm with rfl | rfl | rfl
  · obtain ⟨k, k1, k2, k3⟩ := pt_e0 g (by omega) hcr
    exact ⟨k, 0, ⟨by omega, by omega, by omega⟩, k3⟩
  · obtain ⟨k, k1, k2, k3⟩ := pt_e1 g (by omega) hcr
    refine ⟨t.st, k, ⟨by omega, by omega, by omega⟩, ?_⟩
    unfold inC at k3 ⊢
    rw [k3, sst]
    congr 1
    omega
  · obtain ⟨k, k1, k2, k3⟩ := pt_e2 g (by omega) hcr
    exact ⟨k, k, ⟨by omega, by omega, by omega⟩, k3⟩
theorem upp_pt (g : Grd t W H) (hr : r + 1 < H) (hc : c + 1 < W) {s : Nat × Nat} (h : s ∈ uppS (abv t level) W (r * W + c)) {e : Nat} (he : e = s.1 ∨ e = s.2) : ∃ u v, uppT t.st u v ∧ inC t c r u v (ptE t W level e) := by
  obtain ⟨h1, h2⟩ := upp_crs (H := H) hr hc h
  have hcr : crsB (abv t level) W H e = true := by rcases he with rfl | rfl <;> assumption
  obtain ⟨m1, m2⟩ := tri_mem h
  have hm : e = 3 * (r * W + c) + 2 ∨ e = 3 * ((r + 1) * W + c) ∨ e = 3 * (r * W + c) + 1 := by
    rw [← cell_up (r := r)]; rcases he with rfl | rfl <;> assumption
  rcases hm with rfl | rfl | rfl
  · obtain ⟨k, k1, k2, k3⟩ := pt_e2 g (by omega) hcr
    exact ⟨k, k, ⟨by omega, by omega, by omega⟩, k3⟩
  · obtain ⟨k, k1, k2, k3⟩ := pt_e0 g (by omega) hcr
    refine ⟨k, t.st, ⟨by omega, by omega, by omega⟩, ?_⟩
    unfold inC at k3 ⊢
    rw [k3, sst]
    congr 1
    omega
  · obtain ⟨k, k1, k2, k3⟩ := pt_e1 g (by omega) hcr
    exact ⟨0, k, ⟨by omega, by omega, by omega⟩, k3⟩
/-- a step's points lie in one triangle of a cell -/
theorem row_pt (g : Grd t W H) (hr : r + 1 < H) {s : Nat × Nat} (h : s ∈ rowS (abv t level) W r (W - 1)) : ∃ c, c + 1 < W ∧ ((∃ u v u' v', lowT t.st u v ∧ lowT t.st u' v' ∧ inC t c r u v (ptE t W level s.1) ∧ inC t c r u' v' (ptE t W level s.2)) ∨ (∃ u v u' v', uppT t.st u v ∧ uppT t.st u' v' ∧ inC t c r u v (ptE t W level s.1) ∧ inC t c r u' v' (ptE t W level s.2))) := by
  obtain ⟨c, hc, h | h⟩ := rowS_mem.1 h
  · obtain ⟨u, v, a1, a2⟩ := low_pt g hr (by omega) h (.inl rfl)
    obtain ⟨u', v', b1, b2⟩ := low_pt g hr (by omega) h (.inr rfl)
    exact ⟨c, by omega, .inl ⟨u, v, u', v', a1, b1, a2, b2⟩⟩
  · obtain ⟨u, v, a1, a2⟩ := upp_pt g hr (by omega) h (.inl rfl)
    obtain ⟨u', v', b1, b2⟩ := upp_pt g hr (by omega) h (.inr rfl)
    exact ⟨c, by omega, .inr ⟨u, v, u', v', a1, b1, a2, b2⟩⟩
end
/-- points in a cell: what is used of both triangles -/
theorem tri_sq {s u v : Int} (h : lowT s u v ∨ uppT s u v) : 0 ≤ u ∧ u ≤ s ∧ 0 ≤ v ∧ v ≤ s := by
  unfold lowT uppT at h; omega
theorem row_sq {t : Ht} {W H r : Nat} {level : Int} (g : Grd t W H) (hr : r + 1 < H) {s : Nat × Nat} (h : s ∈ rowS (abv t level) W r (W - 1)) : ∃ c u v u' v', c + 1 < W ∧ (0 ≤ u ∧ u ≤ t.st ∧ 0 ≤ v ∧ v ≤ t.st) ∧ (0 ≤ u' ∧ u' ≤ t.st ∧ 0 ≤ v' ∧ v' ≤ t.st) ∧ inC t c r u v (ptE t W level s.1) ∧ inC t c r u' v' (ptE t W level s.2) := by
  obtain ⟨c, hc, ⟨u, v, u', v', a1, b1, a2, b2⟩ | ⟨u, v, u', v', a1, b1, a2, b2⟩⟩ := row_pt g hr h
  · exact ⟨c, u, v, u', v', hc, tri_sq (.inl a1), tri_sq (.inl b1), a2, b2⟩
  · exact ⟨c, u, v, u', v', hc, tri_sq (.inr a1), tri_sq (.inr b1), a2, b2⟩
theorem mul_le_nat {a b : Nat} {s : Int} (hs : 0 ≤ s) (h : a ≤ b) : (a : Int) * s ≤ (b : Int) * s := Int.mul_le_mul_of_nonneg_right (by omega) hs
theorem mul_lt_nat {a b : Nat} {s : Int} (hs : 0 ≤ s) (h : a < b) : (a : Int) * s + s ≤ (b : Int) * s := by
  have := mul_le_nat (a := a + 1) (b := b) hs h
  rw [sst] at this
  exact this
/-- segments of other rows of cells do not count -/
theorem crs_other {t : Ht} {c0 r0 c r : Nat} {a b : Pt} {u v u' v' : Int} (hst : 1 ≤ t.st) (hr : r ≠ r0) (h1 : 0 ≤ v ∧ v ≤ t.st) (h2 : 0 ≤ v' ∧ v' ≤ t.st) (ha : inC t c r u v a) (hb : inC t c r u' v' b) :
    crsP a b (t.x + (c0 : Int) * t.st, t.y + (r0 : Int) * t.st) = false := by
  unfold inC at ha hb
  subst ha hb
  unfold crsP
  dsimp only
  rcases Nat.lt_or_ge r r0 with h | h
  · have := mul_lt_nat (s := t.st) (by omega) h
    rw [decide_eq_false (by omega : ¬ (t.y + (r0 : Int) * t.st < t.y + (r : Int) * t.st + v')), decide_eq_false (by omega : ¬ (t.y + (r0 : Int) * t.st < t.y + (r : Int) * t.st + v))]
    simp
  · have := mul_lt_nat (s := t.st) (a := r0) (b := r) (by omega) (by omega)
    rw [decide_eq_false (by omega : ¬ (t.y + (r : Int) * t.st + v ≤ t.y + (r0 : Int) * t.st)), decide_eq_false (by omega : ¬ (t.y + (r : Int) * t.st + v' ≤ t.y + (r0 : Int) * t.st))]
    simp
theorem pos_of_mul {a b : Int} (ha : 0 < a) (h : 0 < a * b) : 0 < b := by
  have : a * 0 < a * b := by omega
  exact Int.lt_of_mul_lt_mul_left this (by omega)
theorem sg_pos {n : Int} : sg n = 1 ↔ 0 < n := by unfold sg; split <;> (try split) <;> omega
theorem sg_neg {n : Int} : sg n = -1 ↔ n < 0 := by unfold sg; split <;> (try split) <;> omega
/-- whether an edge's point lies on the row of p, or below, to the east of p -/
def eastB (p q : Pt) : Bool := decide (q.2 ≤ p.2) && decide (p.1 < q.1)
/-- segments of the row of cells to the north of the point's row -/
theorem crs_row {t : Ht} {c0 c r : Nat} {a b : Pt} {u v u' v' : Int} (hst : 1 ≤ t.st) (h1 : 0 ≤ u ∧ u ≤ t.st ∧ 0 ≤ v ∧ v ≤ t.st) (h2 : 0 ≤ u' ∧ u' ≤ t.st ∧ 0 ≤ v' ∧ v' ≤ t.st) (ha : inC t c r u v a) (hb : inC t c r u' v' b)
    (na : a ≠ (t.x + (c0 : Int) * t.st, t.y + (r : Int) * t.st)) (nb : b ≠ (t.x + (c0 : Int) * t.st, t.y + (r : Int) * t.st)) :
    crsP a b (t.x + (c0 : Int) * t.st, t.y + (r : Int) * t.st) = (eastB (t.x + (c0 : Int) * t.st, t.y + (r : Int) * t.st) a ^^ eastB (t.x + (c0 : Int) * t.st, t.y + (r : Int) * t.st) b) := by
  unfold inC at ha hb
  subst ha hb
  have hcol : (c0 : Int) * t.st ≤ (c : Int) * t.st ∨ (c : Int) * t.st + t.st ≤ (c0 : Int) * t.st := by
    rcases Nat.lt_or_ge c c0 with h | h
    · exact .inr (mul_lt_nat (by omega) h)
    · exact .inl (mul_le_nat (by omega) h)
  generalize hX0 : (c0 : Int) * t.st = X0 at *
  generalize hX : (c : Int) * t.st = X at *
  generalize hY : (r : Int) * t.st = Y at *
  have n1 : v = 0 → X + u ≠ X0 := fun hv e => na (by subst hv; congr 1 <;> omega)
  have n2 : v' = 0 → X + u' ≠ X0 := fun hv e => nb (by subst hv; congr 1 <;> omega)
  unfold crsP eastB sd
  rw [Bool.eq_iff_iff]
  simp only [Bool.or_eq_true, Bool.and_eq_true, decide_eq_true_eq, sg_pos, sg_neg]
  rcases (by omega : (v = 0 ∧ v' = 0) ∨ (v = 0 ∧ 0 < v') ∨ (0 < v ∧ v' = 0) ∨ (0 < v ∧ 0 < v')) with ⟨q1, q2⟩ | ⟨q1, q2⟩ | ⟨q1, q2⟩ | ⟨q1, q2⟩
  · subst q1 q2
    have n1 := n1 rfl
    have n2 := n2 rfl
    have e1 : decide (t.x + X0 < t.x + X + u) = decide (t.x + X0 < t.x + X + u') := by rw [decide_eq_decide]; omega
    rw [e1]
    constructor
    · intro h; omega
    · intro h; simp at h
  · subst q1
    have e1 : decide (t.y + Y + v' ≤ t.y + Y) = false := decide_eq_false (by omega)
    have e2 : decide (t.y + Y + 0 ≤ t.y + Y) = true := decide_eq_true (by omega)
    rw [e1, e2, Bool.true_and, Bool.false_and, Bool.xor_false, decide_eq_true_eq]
    have e3 : tw (t.x + X + u, t.y + Y + 0) (t.x + X + u', t.y + Y + v') (t.x + X0, t.y + Y) = v' * (X + u - X0) := by unfold tw; dsimp only; grind
    rw [e3]
    constructor
    · rintro (⟨_, h⟩ | ⟨⟨_, h⟩, _⟩)
      · have := pos_of_mul q2 h
        omega
      · omega
    · intro h
      exact .inl ⟨by omega, Int.mul_pos q2 (by omega)⟩
  · subst q2
    have e1 : decide (t.y + Y + v ≤ t.y + Y) = false := decide_eq_false (by omega)
    have e2 : decide (t.y + Y + 0 ≤ t.y + Y) = true := decide_eq_true (by omega)
    rw [e1, e2, Bool.true_and, Bool.false_and, Bool.false_xor, decide_eq_true_eq]
    have e3 : tw (t.x + X + u, t.y + Y + v) (t.x + X + u', t.y + Y + 0) (t.x + X0, t.y + Y) = -(v * (X + u' - X0)) := by unfold tw; dsimp only; grind
    rw [e3]
    constructor
    · rintro (⟨⟨_, h⟩, _⟩ | ⟨_, h⟩)
      · omega
      · have h : 0 < v * (X + u' - X0) := by omega
        have := pos_of_mul q1 h
        omega
    · intro h
      have := Int.mul_pos q1 (show 0 < X + u' - X0 by omega)
      exact .inr ⟨by omega, by omega⟩
  · have e1 : decide (t.y + Y + v ≤ t.y + Y) = false := decide_eq_false (by omega)
    have e2 : decide (t.y + Y + v' ≤ t.y + Y) = false := decide_eq_false (by omega)
    rw [e1, e2, Bool.false_and, Bool.false_and]
    constructor
    · intro h; omega
    · intro h; cases h
/-- a grid point on a segment between two points of a triangle is one of them -/
theorem on_low {s m n u v u' v' : Int} (hs : 1 ≤ s) (h1 : lowT s u v) (h2 : lowT s u' v') (hm : m = 0 ∨ m = s) (hn : n = 0 ∨ n = s) (ht : (u' - u) * (n - v) - (v' - v) * (m - u) = 0)
    (hx : min u u' ≤ m ∧ m ≤ max u u') (hy : min v v' ≤ n ∧ n ≤ max v v') : (m = u ∧ n = v) ∨ (m = u' ∧ n = v') := by
  unfold lowT at h1 h2
  rcases hm with rfl | rfl <;> rcases hn with rfl | rfl
  · omega
  · exfalso
    rcases (by omega : (v = n ∧ u' = 0) ∨ (v' = n ∧ u = 0)) with ⟨q1, q2⟩ | ⟨q1, q2⟩
    · obtain rfl : v' = 0 := by omega
      obtain rfl : u = n := by omega
      subst q1 q2
      rw [Int.sub_self, Int.mul_zero, Int.zero_sub] at ht
      have := Int.mul_pos (show 0 < v by omega) (show 0 < v by omega)
      have e : (0 - v) * (0 - v) = v * v := by grind
      rw [e] at ht
      omega
    · obtain rfl : v = 0 := by omega
      obtain rfl : u' = n := by omega
      subst q1 q2
      have := Int.mul_pos (show 0 < v' by omega) (show 0 < v' by omega)
      have e : (v' - 0) * (v' - 0) - (v' - 0) * (0 - 0) = v' * v' := by grind
      rw [e] at ht
      omega
  · rcases (by omega : (u = m ∧ v = 0) ∨ (u' = m ∧ v' = 0) ∨ (u = m ∧ v' = 0 ∧ 0 < v ∧ u' < m) ∨ (u' = m ∧ v = 0 ∧ 0 < v' ∧ u < m)) with q | q | ⟨rfl, rfl, q1, q2⟩ | ⟨rfl, rfl, q1, q2⟩
    · omega
    · omega
    · exfalso
      have := Int.mul_pos q1 (show 0 < u - u' by omega)
      have e : (u' - u) * (0 - v) - (0 - v) * (u - u) = v * (u - u') := by grind
      rw [e] at ht
      omega
    · exfalso
      have := Int.mul_pos q1 (show 0 < u' - u by omega)
      have e : (u' - u) * (0 - 0) - (v' - 0) * (u' - u) = -(v' * (u' - u)) := by grind
      rw [e] at ht
      omega
  · omega
theorem on_upp {s m n u v u' v' : Int} (hs : 1 ≤ s) (h1 : uppT s u v) (h2 : uppT s u' v') (hm : m = 0 ∨ m = s) (hn : n = 0 ∨ n = s) (ht : (u' - u) * (n - v) - (v' - v) * (m - u) = 0)
    (hx : min u u' ≤ m ∧ m ≤ max u u') (hy : min v v' ≤ n ∧ n ≤ max v v') : (m = u ∧ n = v) ∨ (m = u' ∧ n = v') := by
  have := on_low (s := s) (m := n) (n := m) (u := v) (v := u) (u' := v') (v' := u') hs ⟨h1.1, h1.2.1, h1.2.2⟩ ⟨h2.1, h2.2.1, h2.2.2⟩ hn hm (by omega) hy hx
  omega
theorem grid_in {m : Int} {s : Int} (hs : 1 ≤ s) (h1 : 0 ≤ m * s) (h2 : m * s ≤ s) : m * s = 0 ∨ m * s = s := by
  have h3 : 0 ≤ m := by
    rcases (by omega : m < 0 ∨ 0 ≤ m) with h | h
    · have := Int.mul_neg_of_neg_of_pos h (show 0 < s by omega)
      omega
    · exact h
  have h4 : m ≤ 1 := by
    rcases (by omega : 1 < m ∨ m ≤ 1) with h | h
    · have := Int.mul_lt_mul_of_pos_right h (show 0 < s by omega)
      omega
    · exact h
  rcases (by omega : m = 0 ∨ m = 1) with rfl | rfl
  · left; simp
  · right; simp
theorem on_step {t : Ht} {c0 r0 c r : Nat} {a b : Pt} (hst : 1 ≤ t.st)
    (h : (∃ u v u' v', lowT t.st u v ∧ lowT t.st u' v' ∧ inC t c r u v a ∧ inC t c r u' v' b) ∨ (∃ u v u' v', uppT t.st u v ∧ uppT t.st u' v' ∧ inC t c r u v a ∧ inC t c r u' v' b))
    (na : a ≠ (t.x + (c0 : Int) * t.st, t.y + (r0 : Int) * t.st)) (nb : b ≠ (t.x + (c0 : Int) * t.st, t.y + (r0 : Int) * t.st)) :
    onB a b (t.x + (c0 : Int) * t.st, t.y + (r0 : Int) * t.st) = false := by
  rw [← Bool.not_eq_true]
  intro hon
  unfold onB at hon
  rw [decide_eq_true_eq] at hon
  obtain ⟨htw, hbx⟩ := hon
  have key : ∃ u v u' v', (lowT t.st u v ∧ lowT t.st u' v' ∨ uppT t.st u v ∧ uppT t.st u' v') ∧ inC t c r u v a ∧ inC t c r u' v' b := by
    rcases h with ⟨u, v, u', v', h1, h2, h3, h4⟩ | ⟨u, v, u', v', h1, h2, h3, h4⟩
    · exact ⟨u, v, u', v', .inl ⟨h1, h2⟩, h3, h4⟩
    · exact ⟨u, v, u', v', .inr ⟨h1, h2⟩, h3, h4⟩
  obtain ⟨u, v, u', v', hT, ha, hb⟩ := key
  unfold inC at ha hb
  subst ha hb
  unfold inBx at hbx
  unfold tw at htw
  dsimp only at hbx htw
  have eX : ((c0 : Int) - (c : Int)) * t.st = (c0 : Int) * t.st - (c : Int) * t.st := Int.sub_mul _ _ _
  have eY : ((r0 : Int) - (r : Int)) * t.st = (r0 : Int) * t.st - (r : Int) * t.st := Int.sub_mul _ _ _
  have sq1 : 0 ≤ u ∧ u ≤ t.st ∧ 0 ≤ v ∧ v ≤ t.st := hT.elim (fun h => tri_sq (.inl h.1)) (fun h => tri_sq (.inr h.1))
  have sq2 : 0 ≤ u' ∧ u' ≤ t.st ∧ 0 ≤ v' ∧ v' ≤ t.st := hT.elim (fun h => tri_sq (.inl h.2)) (fun h => tri_sq (.inr h.2))
  have gm := grid_in (m := (c0 : Int) - (c : Int)) hst (by omega) (by omega)
  have gn := grid_in (m := (r0 : Int) - (r : Int)) hst (by omega) (by omega)
  rw [eX] at gm
  rw [eY] at gn
  generalize hX0 : (c0 : Int) * t.st = X0 at *
  generalize hX : (c : Int) * t.st = X at *
  generalize hY0 : (r0 : Int) * t.st = Y0 at *
  generalize hY : (r : Int) * t.st = Y at *
  have ht : (u' - u) * ((Y0 - Y) - v) - (v' - v) * ((X0 - X) - u) = 0 := by
    rw [← htw]; grind
  have hres : (X0 - X = u ∧ Y0 - Y = v) ∨ (X0 - X = u' ∧ Y0 - Y = v') := by
    rcases hT with ⟨h1, h2⟩ | ⟨h1, h2⟩
    · exact on_low hst h1 h2 gm gn ht (by omega) (by omega)
    · exact on_upp hst h1 h2 gm gn ht (by omega) (by omega)
  rcases hres with ⟨e1, e2⟩ | ⟨e1, e2⟩
  · exact na (by congr 1 <;> omega)
  · exact nb (by congr 1 <;> omega)
end Go.Proofs
/- Plain: where the boundary lies below a level, the lines separate the grid points above from those below. No program is named here. -/
set_option linter.unusedVariables false
set_option linter.unusedSimpArgs false
namespace Go.Proofs
open Go.RowKit Go.Proofs.Mp Go.Lib

theorem oddTo_eq (xs : List Pt) (p : Pt) : ∀ n, oddTo xs p n = oddL (fun i => crsP xs[i]! xs[i + 1]! p) (List.range n)
  | 0 => rfl
  | n + 1 => by
    rw [List.range_succ, oddL_app, oddL, oddL, Bool.xor_false, ← oddTo_eq xs p n, oddTo]
    cases h : crsP xs[n]! xs[n + 1]! p <;> simp
theorem crsP_self (a p : Pt) : crsP a a p = false := by
  unfold crsP
  rw [← Bool.not_eq_true]
  simp only [Bool.or_eq_true, Bool.and_eq_true, decide_eq_true_eq]
  omega
theorem cmp_odd {xs : List Pt} (p : Pt) : ∀ {k}, 1 ≤ k → oddTo (cmpTo xs k) p ((cmpTo xs k).length - 1) = oddTo xs p (k - 1)
  | 0, h => by omega
  | 1, _ => by rw [cmpTo_one]; rfl
  | k + 2, _ => by
    have ih := cmp_odd (xs := xs) p (k := k + 1) (by omega)
    obtain ⟨l1, l2⟩ := cmpTo_last xs (k + 1) (by omega)
    rw [Nat.add_sub_cancel] at ih l2
    rw [show k + 2 - 1 = k + 1 by omega, oddTo]
    by_cases h : xs[k]! = xs[k + 1]!
    · rw [cmpTo_drop (by omega) (by rw [Nat.add_sub_cancel]; exact h), ih, h, crsP_self]; rfl
    · rw [cmpTo_keep (by omega) (by rw [Nat.add_sub_cancel]; exact h), List.length_append, List.length_singleton, Nat.add_sub_cancel]
      obtain ⟨m, hm⟩ : ∃ m, (cmpTo xs (k + 1)).length = m + 1 := ⟨(cmpTo xs (k + 1)).length - 1, by omega⟩
      rw [hm, Nat.add_sub_cancel] at ih l2
      rw [hm, oddTo, getApp1 (by omega), l2, getApp2 (by omega), hm, Nat.sub_self]
      rw [show ([xs[k + 1]!] : List Pt)[0]! = xs[k + 1]! from rfl]
      have : oddTo (cmpTo xs (k + 1) ++ [xs[k + 1]!]) p m = oddTo (cmpTo xs (k + 1)) p m := by
        rw [oddTo_eq, oddTo_eq]
        apply oddL_congr
        intro i hi
        have := List.mem_range.1 hi
        rw [getApp1 (by omega), getApp1 (by omega)]
      rw [this, ih]
theorem path_odd {xs : List Pt} (p : Pt) (h : 1 ≤ xs.length) : oddTo (cmpL xs) p ((cmpL xs).length - 1) = oddTo xs p (xs.length - 1) := by
  rw [← cmpTo_all]; exact cmp_odd p h
theorem cmp_pairs {xs : List Pt} : ∀ {k}, ∀ j, j + 1 < (cmpTo xs k).length → ∃ i, i + 1 < k ∧ (cmpTo xs k)[j]! = xs[i]! ∧ (cmpTo xs k)[j + 1]! = xs[i + 1]!
  | 0, j, h => by rw [cmpTo_zero] at h; simp at h
  | 1, j, h => by rw [cmpTo_one] at h; simp at h
  | k + 2, j, h => by
    obtain ⟨l1, l2⟩ := cmpTo_last xs (k + 1) (by omega)
    rw [Nat.add_sub_cancel] at l2
    by_cases hk : xs[k]! = xs[k + 1]!
    · rw [cmpTo_drop (by omega) (by rw [Nat.add_sub_cancel]; exact hk)] at h ⊢
      obtain ⟨i, h1, h2, h3⟩ := cmp_pairs (k := k + 1) j h
      exact ⟨i, by omega, h2, h3⟩
    · rw [cmpTo_keep (by omega) (by rw [Nat.add_sub_cancel]; exact hk)] at h ⊢
      rw [List.length_append, List.length_singleton] at h
      by_cases hj : j + 1 < (cmpTo xs (k + 1)).length
      · obtain ⟨i, h1, h2, h3⟩ := cmp_pairs (k := k + 1) j hj
        exact ⟨i, by omega, by rw [getApp1 (by omega)]; exact h2, by rw [getApp1 hj]; exact h3⟩
      · obtain rfl : j = (cmpTo xs (k + 1)).length - 1 := by omega
        refine ⟨k, by omega, by rw [getApp1 (by omega)]; exact l2, ?_⟩
        rw [Nat.sub_add_cancel l1, getApp2 (Nat.le_refl _), Nat.sub_self]
        rfl
theorem chain_step {S : List (Nat × Nat)} (hS : Inj S) {e i : Nat} (h : i + 1 < (chain S e).length) : ((chain S e)[i]!, (chain S e)[i + 1]!) ∈ S := by
  have key : ∀ j c, itr S e j = some c → i + 1 < (wayL S e j).length → ((wayL S e j)[i]!, (wayL S e j)[i + 1]!) ∈ S := by
    intro j c hc hl
    rw [wayL_len] at hl
    obtain ⟨y, hy⟩ := itr_le hc (i + 1) (by omega)
    obtain ⟨x, hx, hxy⟩ := itr_succ.1 hy
    rw [getElem!_def, wayL_get (by omega), getElem!_def, wayL_get (by omega), hx, hy]
    exact (nx_mem hS).1 hxy
  obtain ⟨j, c, hc, hn, hl, hk | hk⟩ := chain_cases hS e
  · rw [chain_end hS hc hn hk] at h ⊢
    exact key j c hc h
  · rw [chain_home hS hc hn hk] at h ⊢
    exact key (j + 1) e (itr_succ.2 ⟨c, hc, hk⟩) h
section
variable {t : Ht} {W H : Nat} {level : Int}
/-- the boundary lies below the level -/
def lowB (t : Ht) (W H : Nat) (level : Int) : Prop := ∀ r c, r < H → c < W → (c = 0 ∨ r = 0 ∨ c + 1 = W ∨ r + 1 = H) → abv t level (r * W + c) = false
theorem bd_none (g : Grd t W H) (hlow : lowB t W H level) {e : Nat} (he : crsB (abv t level) W H e = true) : ¬ bdE W H e := by
  have hisE : isE W H e = true := by unfold crsB at he; rw [Bool.and_eq_true] at he; exact he.1
  have hc : e / 3 % W < W := Nat.mod_lt _ (by have := g.all.1; omega)
  have hi := Nat.div_add_mod' (e / 3) W
  have hq := Nat.div_add_mod e 3
  have hE := hisE
  unfold isE at hE
  rw [Bool.and_eq_true, decide_eq_true_eq] at hE
  unfold bdE
  generalize e / 3 / W = r at *
  generalize e / 3 % W = c at *
  obtain ⟨h1, h2⟩ := hE
  rintro (⟨q, hb⟩ | ⟨q, hb⟩) <;> rw [q] at h2 hq
  · simp at h2
    obtain rfl : e = 3 * (r * W + c) := by omega
    rw [crs0 hisE, hlow r c h1 hc (by omega), Nat.add_assoc, hlow r (c + 1) h1 (by omega) (by omega)] at he
    cases he
  · simp at h2
    obtain rfl : e = 3 * (r * W + c) + 1 := by omega
    rw [crs1 hisE, hlow r c h1 hc (by omega), cell_up, hlow (r + 1) c h2 (by omega) (by omega)] at he
    cases he
theorem no_start (g : Grd t W H) (hlow : lowB t W H level) (e : Nat) : Mp.start (stepsL (abv t level) W H) e = false := by
  have hW := g.all.1
  have hS := steps_inj (ab := abv t level) (H := H) (show 1 ≤ W by omega)
  rw [← Bool.not_eq_true]
  intro h
  obtain ⟨h1, h2⟩ := start_split.1 h
  obtain ⟨p, hp, rfl⟩ := List.mem_map.1 (dom_mem.1 h1)
  have hcr := (steps_crs hp).1
  obtain ⟨_, z, hz⟩ := both_steps (show 1 ≤ W by omega) hcr (bd_none g hlow hcr)
  have := (ran_iff hS).2 ⟨z, (nx_mem hS).2 hz⟩
  rw [h2] at this
  cases this
theorem sep_closed (g : Grd t W H) (hlow : lowB t W H level) {l : Ln} (h : l ∈ linesL t W H level) : 2 ≤ l.2.length ∧ l.2[0]! = l.2[l.2.length - 1]! := by
  have hW := g.all.1
  have hS := steps_inj (ab := abv t level) (H := H) (show 1 ≤ W by omega)
  obtain ⟨c, hc, rfl, hlen⟩ := line_chain h
  refine ⟨hlen, ?_⟩
  obtain ⟨e, he, rfl⟩ := chain_of hc
  unfold repB at he
  rw [no_start g hlow e, Bool.false_or] at he
  obtain ⟨h1, h2⟩ := (chain_last hS).2 ((cycB_iff hS).1 he).1
  have hl : 1 ≤ ((chain (stepsL (abv t level) W H) e).map (ptE t W level)).length := by rw [List.length_map]; omega
  dsimp only
  rw [cmpL_first hl, (cmpL_last hl).2, List.length_map, map_get (by omega), map_get (by omega), h2, chain_head]
theorem lim_steps (hW : 1 ≤ W) : Lim (stepsL (abv t level) W H) (3 * W * H) := fun e he => by
  obtain ⟨p, hp, rfl⟩ := List.mem_map.1 (dom_mem.1 he)
  exact crs_lt (steps_crs hp).1
theorem pt_near (g : Grd t W H) {e : Nat} (he : crsB (abv t level) W H e = true) : nearB (ptE t W level e) = true := by
  obtain ⟨k, h1, h2, h3⟩ := pt_form g he
  have hisE : isE W H e = true := by unfold crsB at he; rw [Bool.and_eq_true] at he; exact he.1
  have hW := g.all.1
  have hA := ptA_vp g (edge_ends (by omega) hisE).1
  obtain ⟨_, _, _, _, _, _, hs1, hs2, _⟩ := g.all
  unfold Vp ptA at hA
  dsimp only at hA
  rw [h3]
  unfold nearB
  rw [decide_eq_true_eq]
  dsimp only
  split <;> split <;> omega
/-- the number of lines around a grid point that no line touches -/
theorem sep_count (g : Grd t W H) (hlow : lowB t W H level) {r0 c0 : Nat} (hr : r0 < H) (hc : c0 < W) (hfree : ∀ e ∈ crsL (abv t level) W H, ptE t W level e ≠ ptA t W (r0 * W + c0)) :
    decide (((linesL t W H level).filter fun l => decide (insV l.2 (ptA t W (r0 * W + c0)) = 1)).length % 2 = 1) = abv t level (r0 * W + c0) := by
  have hW := g.all.1
  obtain ⟨_, _, _, _, _, _, hst, _⟩ := g.all
  have hS := steps_inj (ab := abv t level) (H := H) (show 1 ≤ W by omega)
  have hpA : ptA t W (r0 * W + c0) = (t.x + (c0 : Int) * t.st, t.y + (r0 : Int) * t.st) := by unfold ptA; rw [(cell_rc hc).1, (cell_rc hc).2]
  have hpn : nearB (ptA t W (r0 * W + c0)) = true := by
    have hlt : r0 * W + c0 < W * H := by
      have := Nat.mul_le_mul_right W (show r0 + 1 ≤ H by omega)
      rw [Nat.succ_mul, Nat.mul_comm H W] at this
      omega
    have := ptA_vp g hlt
    unfold Vp at this
    unfold nearB
    rw [decide_eq_true_eq]
    omega
  rw [hpA] at hfree hpn ⊢
  generalize hp : ((t.x + (c0 : Int) * t.st, t.y + (r0 : Int) * t.st) : Pt) = p at hfree hpn ⊢
  have hfr : ∀ e, crsB (abv t level) W H e = true → ptE t W level e ≠ p := fun e he => hfree e (List.mem_filter.2 ⟨List.mem_range.2 (crs_lt he), he⟩)
  rw [← oddL_count]
  -- one line
  have hline : ∀ c ∈ chainsL (stepsL (abv t level) W H) (3 * W * H), oddL (fun l : Ln => decide (insV l.2 p = 1)) (lineOf (ptE t W level) level c) = oddL (fun i => crsP (ptE t W level c[i]!) (ptE t W level c[i + 1]!) p) (List.range (c.length - 1)) := by
    intro c hcc
    have hcr : ∀ n ∈ c, crsB (abv t level) W H n = true := fun n hn => chain_crs (by omega) hcc hn
    have hc1 : 1 ≤ c.length := by
      obtain ⟨e, _, rfl⟩ := chain_of hcc
      exact List.length_pos_iff.2 chain_ne
    have hodd : oddTo (cmpL (c.map (ptE t W level))) p ((cmpL (c.map (ptE t W level))).length - 1) = oddL (fun i => crsP (ptE t W level c[i]!) (ptE t W level c[i + 1]!) p) (List.range (c.length - 1)) := by
      rw [path_odd p (by rw [List.length_map]; exact hc1), oddTo_eq, List.length_map]
      apply oddL_congr
      intro i hi
      have := List.mem_range.1 hi
      rw [map_get (by omega), map_get (by omega)]
    rw [← hodd]
    unfold lineOf
    split
    · rename_i hlen
      rw [oddL, oddL, Bool.xor_false]
      dsimp only
      have hl : (level, cmpL (c.map (ptE t W level))) ∈ linesL t W H level := by
        unfold linesL linesOf
        rw [List.mem_flatMap]
        exact ⟨c, hcc, by unfold lineOf; rw [if_pos hlen]; exact List.mem_singleton.2 rfl⟩
      have hcl := (sep_closed g hlow hl).2
      dsimp only at hcl
      have hnear : (nearB p && (cmpL (c.map (ptE t W level))).all nearB) = true := by
        rw [hpn, Bool.true_and, List.all_eq_true]
        intro P hP
        obtain ⟨e, he, rfl⟩ := List.mem_map.1 (cmpL_mem hP)
        exact pt_near g (hcr e he)
      have hnm : ¬ p ∈ cmpL (c.map (ptE t W level)) := by
        intro hP
        obtain ⟨e, he, h⟩ := List.mem_map.1 (cmpL_mem hP)
        exact hfr e (hcr e he) h
      have hon : onTo (cmpL (c.map (ptE t W level))) p ((cmpL (c.map (ptE t W level))).length - 1) = false := by
        unfold onTo
        rw [← Bool.not_eq_true, List.any_eq_true]
        rintro ⟨j, hj, h⟩
        have hj := List.mem_range.1 hj
        rw [← cmpTo_all] at h hj
        obtain ⟨i, h1, h2, h3⟩ := cmp_pairs (xs := c.map (ptE t W level)) (k := (c.map (ptE t W level)).length) j (by omega)
        rw [List.length_map] at h1
        rw [h2, h3, map_get (by omega), map_get h1] at h
        obtain ⟨e, _, rfl⟩ := chain_of hcc
        have hm := chain_step hS h1
        have hcrs := steps_crs hm
        generalize (chain (stepsL (abv t level) W H) e)[i]! = a at *
        generalize (chain (stepsL (abv t level) W H) e)[i + 1]! = b at *
        obtain ⟨r, cc, g1, g2, g3⟩ := steps_mem.1 hm
        have hrow : (a, b) ∈ rowS (abv t level) W r (W - 1) := rowS_mem.2 ⟨cc, by omega, g3⟩
        obtain ⟨c', _, hT⟩ := row_pt g (show r + 1 < H from g1) hrow
        subst hp
        rw [on_step hst hT (hfr a hcrs.1) (hfr b hcrs.2)] at h
        cases h
      unfold insV
      rw [if_pos hnear, if_neg hnm, if_neg (by rw [hon]; decide)]
      cases hq : oddTo (cmpL (c.map (ptE t W level))) p ((cmpL (c.map (ptE t W level))).length - 1)
      · rw [if_neg (by simp)]; rfl
      · rw [if_pos ⟨rfl, hcl⟩]; rfl
    · rename_i hlen
      rw [show (cmpL (c.map (ptE t W level))).length - 1 = 0 by omega]
      rfl
  unfold linesL linesOf
  rw [oddL_flat, oddL_congr hline, odd_chains hS (lim_steps (by omega)) (no_start g hlow) (fun a b => crsP (ptE t W level a) (ptE t W level b) p)]
  have hend : abv t level (r0 * W + (W - 1)) = false := hlow r0 (W - 1) hr (by omega) (by omega)
  unfold stepsL
  rw [steps_par (abv t level) _ W r0 (abv t level (r0 * W + c0)) (H - 1)]
  · by_cases h : r0 + 1 = H
    · rw [hlow r0 c0 hr hc (by omega), Bool.and_false]
    · rw [decide_eq_true (by omega : r0 < H - 1), Bool.true_and]
  · intro r hr1 hne
    apply oddL_false
    intro s hs
    obtain ⟨c, u, v, u', v', _, h1, h2, h3, h4⟩ := row_sq g (show r + 1 < H by omega) hs
    rw [← hp]
    exact crs_other hst hne ⟨h1.2.2.1, h1.2.2.2⟩ ⟨h2.2.2.1, h2.2.2.2⟩ h3 h4
  · intro hr1
    have hfr' := hfr
    rw [oddL_congr (ψ := fun s => eastB p (ptE t W level s.1) ^^ eastB p (ptE t W level s.2))]
    · rw [row_par (abv t level) (fun e => eastB p (ptE t W level e)) W r0 c0, hend, Bool.xor_false]
      · unfold vtB
        have a1 := hlow r0 0 hr (by omega) (by omega)
        have a2 := hlow (r0 + 1) 0 (by omega) (by omega) (by omega)
        rw [Nat.add_zero] at a1 a2
        rw [a1, show r0 * W + W = (r0 + 1) * W by rw [Nat.succ_mul], a2]
        rfl
      · unfold vtB
        rw [hend, cell_up, hlow (r0 + 1) (W - 1) (by omega) (by omega) (by omega)]
        rfl
      · intro c hcc
        unfold hzB
        rw [← Bool.not_eq_true, Bool.and_eq_true]
        rintro ⟨h1, h2⟩
        rw [cell_up] at h1 h2
        have hcr : crsB (abv t level) W H (3 * ((r0 + 1) * W + c)) = true := by rw [crs0 (isE0 (by omega) (by omega))]; exact h1
        obtain ⟨k, k1, k2, k3⟩ := pt_e0 g (by omega) hcr
        unfold inC at k3
        dsimp only at h2
        rw [k3, ← hp] at h2
        unfold eastB at h2
        rw [Bool.and_eq_true, decide_eq_true_eq] at h2
        have := h2.1
        dsimp only at this
        rw [sst] at this
        omega
      · intro c hcc
        unfold hzB
        by_cases h1 : (abv t level (r0 * W + c) != abv t level (r0 * W + c + 1)) = true
        · rw [h1, Bool.true_and, Bool.true_and]
          have hcr : crsB (abv t level) W H (3 * (r0 * W + c)) = true := by rw [crs0 (isE0 (by omega) (by omega))]; exact h1
          obtain ⟨k, k1, k2, k3⟩ := pt_e0 g (by omega) hcr
          have hne := hfr _ hcr
          unfold inC at k3
          rw [k3, ← hp] at hne
          dsimp only
          rw [k3, ← hp]
          unfold eastB
          dsimp only
          rw [decide_eq_true (by omega : t.y + (r0 : Int) * t.st + 0 ≤ t.y + (r0 : Int) * t.st), Bool.true_and, decide_eq_decide]
          have hne' : (c : Int) * t.st + k ≠ (c0 : Int) * t.st := fun h => hne (by congr 1 <;> omega)
          constructor
          · intro h
            rcases Nat.lt_or_ge c c0 with q | q
            · have := mul_lt_nat (s := t.st) (by omega) q
              omega
            · exact q
          · intro h
            have := mul_le_nat (s := t.st) (by omega) h
            omega
        · have h1 : (abv t level (r0 * W + c) != abv t level (r0 * W + c + 1)) = false := by simpa using h1
          rw [h1, Bool.false_and, Bool.false_and]
      · omega
    · intro s hs
      obtain ⟨c, u, v, u', v', _, h1, h2, h3, h4⟩ := row_sq g (show r0 + 1 < H by omega) hs
      obtain ⟨c1, hc1, hs1⟩ := rowS_mem.1 hs
      have hcrs : crsB (abv t level) W H s.1 = true ∧ crsB (abv t level) W H s.2 = true := by
        rcases hs1 with hs1 | hs1
        · exact low_crs (by omega) (by omega) hs1
        · exact upp_crs (by omega) (by omega) hs1
      have n1 := hfr s.1 hcrs.1
      have n2 := hfr s.2 hcrs.2
      rw [← hp] at n1 n2 ⊢
      exact crs_row hst h1 h2 h3 h4 n1 n2
end
end Go.Proofs
/- Plain: levels beyond the heights; moved grids; all levels. No program is named here. -/
set_option linter.unusedVariables false
set_option linter.unusedSimpArgs false
namespace Go.Proofs
open Go.RowKit Go.Proofs.Mp Go.Lib

/-- where no edge is crossed, there is no line -/
theorem none_crossed {t : Ht} {W H : Nat} {level : Int} (h : ∀ e, crsB (abv t level) W H e = false) : crsL (abv t level) W H = [] ∧ linesL t W H level = [] := by
  have hS : stepsL (abv t level) W H = [] := by
    apply List.eq_nil_iff_forall_not_mem.2
    intro p hp
    have := (steps_crs hp).1
    rw [h] at this
    cases this
  constructor
  · unfold crsL
    rw [List.filter_eq_nil_iff]
    intro e _
    rw [h e]
    decide
  · unfold linesL chainsL
    rw [hS]
    have : (List.range (3 * W * H)).filter (repB []) = [] := by
      rw [List.filter_eq_nil_iff]
      intro e _ he
      have := rep_dom (S := []) ⟨List.nodup_nil, List.nodup_nil⟩ he
      cases this
    rw [this]
    rfl
theorem same_side {t : Ht} {W H : Nat} {level : Int} {b : Bool} (hW : 1 ≤ W) (h : ∀ j, j < W * H → abv t level j = b) (e : Nat) : crsB (abv t level) W H e = false := by
  rw [← Bool.not_eq_true]
  intro he
  have hisE : isE W H e = true := by unfold crsB at he; rw [Bool.and_eq_true] at he; exact he.1
  obtain ⟨k1, k2⟩ := edge_ends hW hisE
  unfold crsB at he
  rw [h _ k1, h _ k2] at he
  simp at he
theorem at_lt {W H r c : Nat} (hr : r < H) (hc : c < W) : r * W + c < W * H := by
  have := Nat.mul_le_mul_right W (show r + 1 ≤ H by omega)
  rw [Nat.succ_mul, Nat.mul_comm H W] at this
  omega
/-- where no edge is crossed, all points are on one side -/
theorem one_side {ab : Nat → Bool} {W H : Nat} (hW : 1 ≤ W) (h : ∀ e, crsB ab W H e = false) : ∀ i, i < W * H → ab i = ab 0 := by
  have h1 : ∀ r, r < H → ∀ c, c < W → ab (r * W + c) = ab (r * W) := by
    intro r hr c
    induction c with
    | zero => intro _; rw [Nat.add_zero]
    | succ c ih =>
      intro hc
      have := h (3 * (r * W + c))
      rw [crs0 (isE0 hr hc)] at this
      have e : ab (r * W + c) = ab (r * W + c + 1) := by simpa using this
      rw [← Nat.add_assoc, ← e]
      exact ih (by omega)
  have h2 : ∀ r, r < H → ab (r * W) = ab 0 := by
    intro r
    induction r with
    | zero => intro _; rw [Nat.zero_mul]
    | succ r ih =>
      intro hr
      have := h (3 * (r * W + 0) + 1)
      rw [crs1 (isE1 hr (by omega)), Nat.add_zero] at this
      have e : ab (r * W) = ab (r * W + W) := by simpa using this
      rw [Nat.succ_mul, ← e]
      exact ih (by omega)
  intro i hi
  have hd := Nat.div_add_mod' i W
  have hm : i % W < W := Nat.mod_lt _ (by omega)
  have hr : i / W < H := by rw [Nat.div_lt_iff_lt_mul (by omega), Nat.mul_comm]; exact hi
  rw [← hd, h1 _ hr _ hm, h2 _ hr]
theorem some_crossed {ab : Nat → Bool} {W H : Nat} (hW : 1 ≤ W) {i j : Nat} (hi : i < W * H) (hj : j < W * H) (h1 : ab i = true) (h2 : ab j = false) : crsL ab W H ≠ [] := by
  intro h
  unfold crsL at h
  rw [List.filter_eq_nil_iff] at h
  have hno : ∀ e, crsB ab W H e = false := by
    intro e
    rw [← Bool.not_eq_true]
    intro he
    exact h e (List.mem_range.2 (crs_lt he)) he
  have e1 := one_side hW hno i hi
  have e2 := one_side hW hno j hj
  rw [h1] at e1
  rw [h2, ← e1] at e2
  cases e2

/- moved grids -/
theorem rowS_congr {ab ab' : Nat → Bool} {W H r : Nat} (h : ∀ i, i < W * H → ab i = ab' i) (hr : r + 1 < H) : ∀ n, n ≤ W - 1 → rowS ab W r n = rowS ab' W r n
  | 0, _ => rfl
  | n + 1, hn => by
    have a1 := at_lt (H := H) (r := r) (c := n) (by omega) (show n < W by omega)
    have a2 := at_lt (H := H) (r := r) (c := n + 1) (by omega) (show n + 1 < W by omega)
    have a3 := at_lt (H := H) (r := r + 1) (c := n) (by omega) (show n < W by omega)
    have a4 := at_lt (H := H) (r := r + 1) (c := n + 1) (by omega) (show n + 1 < W by omega)
    rw [rowS, rowS, rowS_congr h hr n (by omega)]
    unfold lowS uppS
    rw [← cell_up] at a3 a4
    rw [h _ a1, h (r * W + n + 1) (by omega), h (r * W + n + W + 1) (by omega), h (r * W + n + W) a3]
theorem stepsTo_congr {ab ab' : Nat → Bool} {W H : Nat} (h : ∀ i, i < W * H → ab i = ab' i) : ∀ n, n ≤ H - 1 → stepsTo ab W n = stepsTo ab' W n
  | 0, _ => rfl
  | n + 1, hn => by rw [stepsTo, stepsTo, stepsTo_congr h n (by omega), rowS_congr h (by omega) _ (Nat.le_refl _)]
def shP (q p : Pt) : Pt := (p.1 + q.1, p.2 + q.2)
theorem shP_inj {q a b : Pt} : shP q a = shP q b ↔ a = b := by
  unfold shP
  constructor
  · intro h
    injection h with h1 h2
    exact Prod.ext (by omega) (by omega)
  · intro h; rw [h]
theorem sh_get {q : Pt} {xs : List Pt} {k : Nat} (h : k < xs.length) : (xs.map (shP q))[k]! = shP q xs[k]! := by
  rw [getElem!_pos _ _ (by simpa using h), getElem!_pos xs k h, List.getElem_map]
theorem cmpTo_sh (q : Pt) (xs : List Pt) : ∀ k, k ≤ xs.length → cmpTo (xs.map (shP q)) k = (cmpTo xs k).map (shP q)
  | 0, _ => rfl
  | 1, h => by rw [cmpTo_one, cmpTo_one, sh_get h]; rfl
  | k + 2, h => by
    have ih := cmpTo_sh q xs (k + 1) (by omega)
    by_cases hk : xs[k]! = xs[k + 1]!
    · rw [cmpTo_drop (xs := xs) (by omega) (by rw [Nat.add_sub_cancel]; exact hk), cmpTo_drop (by omega) (by rw [Nat.add_sub_cancel, sh_get (by omega), sh_get (by omega), hk]), ih]
    · rw [cmpTo_keep (xs := xs) (by omega) (by rw [Nat.add_sub_cancel]; exact hk), cmpTo_keep (by omega) (by rw [Nat.add_sub_cancel, sh_get (by omega), sh_get (by omega), Ne, shP_inj]; exact hk), ih, sh_get (by omega), List.map_append]
      rfl
theorem cmpL_sh (q : Pt) (xs : List Pt) : cmpL (xs.map (shP q)) = (cmpL xs).map (shP q) := by
  rw [← cmpTo_all, ← cmpTo_all, List.length_map, cmpTo_sh q xs _ (Nat.le_refl _)]
def shL (q : Pt) (lv : Int) (l : Ln) : Ln := (lv, l.2.map (shP q))
theorem linesOf_sh {f f' : Nat → Pt} {lv lv' : Int} (q : Pt) : ∀ {cs : List (List Nat)}, (∀ c ∈ cs, ∀ e ∈ c, f' e = shP q (f e)) → linesOf f' lv' cs = (linesOf f lv cs).map (shL q lv')
  | [], _ => rfl
  | c :: cs, h => by
    have h1 : linesOf f' lv' (c :: cs) = lineOf f' lv' c ++ linesOf f' lv' cs := by unfold linesOf; rw [List.flatMap_cons]
    have h2 : linesOf f lv (c :: cs) = lineOf f lv c ++ linesOf f lv cs := by unfold linesOf; rw [List.flatMap_cons]
    rw [h1, h2, List.map_append, linesOf_sh q fun c hc => h c (List.mem_cons_of_mem _ hc)]
    congr 1
    have e : c.map f' = (c.map f).map (shP q) := by
      rw [List.map_map]
      apply List.map_congr_left
      intro x hx
      exact h c List.mem_cons_self x hx
    unfold lineOf
    rw [e, cmpL_sh, List.length_map]
    split
    · rfl
    · rfl
theorem moves_law {t x : Ht} {level up : Int} {q : Pt} (h0 : chkH t = 0) (h1 : chkH x = 0) (hv : x.v = t.v.map (· + up)) (hx : x.x = t.x + q.1) (hy : x.y = t.y + q.2) (hw : x.w = t.w) (hh : x.h = t.h) (hst : x.st = t.st) :
    linesT x (level + up) = (linesT t level).map (shL q (level + up)) := by
  have g := Grd.of h0
  have gx := Grd.of h1
  unfold linesT
  rw [if_pos h0, if_pos h1, hw, hh]
  rw [hw, hh] at gx
  obtain ⟨hW, _, _, _, hl, _, _⟩ := g.all
  generalize t.w.toNat = W at *
  generalize t.h.toNat = H at *
  have hval : ∀ i, i < W * H → x.v[i]! = t.v[i]! + up := by
    intro i hi
    rw [hv, getElem!_pos _ _ (by rw [List.length_map]; omega), getElem!_pos t.v i (by omega), List.getElem_map]
  have hab : ∀ i, i < W * H → abv x (level + up) i = abv t level i := by
    intro i hi
    unfold abv
    rw [hval i hi, decide_eq_decide]
    omega
  have hS : stepsL (abv x (level + up)) W H = stepsL (abv t level) W H := stepsTo_congr hab _ (Nat.le_refl _)
  unfold linesL
  rw [hS]
  apply linesOf_sh
  intro c hc e he
  have hcr : crsB (abv t level) W H e = true := chain_crs (by omega) hc he
  have hisE : isE W H e = true := by unfold crsB at hcr; rw [Bool.and_eq_true] at hcr; exact hcr.1
  obtain ⟨k1, k2⟩ := edge_ends (show 1 ≤ W by omega) hisE
  obtain ⟨l1, l2, _⟩ := crs_ends g hcr
  have hlo : loE x W (level + up) e = loE t W level e := by
    unfold loE
    rw [hval _ k1]
    by_cases hc : level ≤ t.v[e / 3]!
    · rw [if_pos hc, if_pos (by omega)]
    · rw [if_neg hc, if_neg (by omega)]
  have hhi : hiE x W (level + up) e = hiE t W level e := by
    unfold hiE
    rw [hval _ k1]
    by_cases hc : level ≤ t.v[e / 3]!
    · rw [if_pos hc, if_pos (by omega)]
    · rw [if_neg hc, if_neg (by omega)]
  have hA : ∀ i, ptA x W i = shP q (ptA t W i) := by
    intro i
    unfold ptA shP
    rw [hx, hy, hst]
    dsimp only
    congr 1 <;> omega
  unfold ptE
  rw [hlo, hhi, hval _ l1, hval _ l2, hA, hA]
  unfold shP
  dsimp only
  have e1 : ∀ a b : Int, a + q.1 - (b + q.1) = a - b := fun a b => by omega
  have e2 : ∀ a b : Int, a + q.2 - (b + q.2) = a - b := fun a b => by omega
  have e3 : ∀ a : Int, level + up - (a + up) = level - a := fun a => by omega
  have e4 : ∀ a b : Int, a + up - (b + up) = a - b := fun a b => by omega
  rw [e1, e2, e3, e4]
  congr 1 <;> omega

/- all levels -/
def wantTo (f : Int → List Ln) (lo iv : Int) (k : Nat) : List Ln := (List.range k).flatMap fun j : Nat => if 0 < j ∧ (lo + (j : Int)).tmod iv = 0 then f (lo + (j : Int)) else []
theorem wantTo_succ (f : Int → List Ln) (lo iv : Int) (k : Nat) : wantTo f lo iv (k + 1) = wantTo f lo iv k ++ (if 0 < k ∧ (lo + (k : Int)).tmod iv = 0 then f (lo + (k : Int)) else []) := by
  unfold wantTo
  rw [List.range_succ, List.flatMap_append]
  simp
theorem flo_succ {a b : Int} (hb : 0 < b) : flo (a + 1) b = if (a + 1).tmod b = 0 then flo a b + 1 else flo a b := by
  obtain ⟨g1, g2⟩ := flo_spec (a := a) hb
  generalize flo a b = q at *
  rw [Int.mul_add, Int.mul_one] at g2
  split
  · rename_i h
    obtain ⟨m, hm⟩ := Int.dvd_of_tmod_eq_zero h
    have k1 : b * q < b * m := by omega
    have k2 := Int.lt_of_mul_lt_mul_left k1 (Int.le_of_lt hb)
    have k3 : b * m < b * (q + 2) := by rw [Int.mul_add]; omega
    have k4 := Int.lt_of_mul_lt_mul_left k3 (Int.le_of_lt hb)
    obtain rfl : m = q + 1 := by omega
    exact flo_unique hb (by omega) (by rw [Int.mul_add, ← hm]; omega)
  · rename_i h
    refine flo_unique hb (by omega) ?_
    rw [Int.mul_add, Int.mul_one]
    have : a + 1 ≠ b * q + b := fun e => h (by
      rw [e, show b * q + b = b * (q + 1) by rw [Int.mul_add, Int.mul_one]]
      exact Int.mul_tmod_right b (q + 1))
    omega
theorem want_all (f : Int → List Ln) {lo iv : Int} (hi : 0 < iv) : ∀ k : Nat, wantTo f lo iv (k + 1) = lvlL f (flo lo iv) iv (flo (lo + (k : Int)) iv - flo lo iv).toNat ∧ flo lo iv ≤ flo (lo + (k : Int)) iv
  | 0 => by
    rw [wantTo_succ, if_neg (by omega), show ((0 : Nat) : Int) = 0 from rfl, Int.add_zero, Int.sub_self]
    exact ⟨rfl, by omega⟩
  | k + 1 => by
    obtain ⟨h1, h2⟩ := want_all f (lo := lo) hi k
    have e1 : lo + ((k + 1 : Nat) : Int) = lo + (k : Int) + 1 := by omega
    rw [wantTo_succ, h1, e1, flo_succ hi]
    by_cases hd : (lo + (k : Int) + 1).tmod iv = 0
    · rw [if_pos ⟨by omega, hd⟩, if_pos hd]
      obtain ⟨n, hn⟩ : ∃ n : Nat, flo (lo + (k : Int)) iv - flo lo iv = (n : Int) := ⟨(flo (lo + (k : Int)) iv - flo lo iv).toNat, by omega⟩
      refine ⟨?_, by omega⟩
      rw [hn, show (flo (lo + (k : Int)) iv + 1 - flo lo iv).toNat = n + 1 by omega, show ((n : Int)).toNat = n by omega, lvlL_succ]
      congr 2
      have := flo_succ (a := lo + (k : Int)) hi
      rw [if_pos hd] at this
      obtain ⟨g1, g2⟩ := flo_spec (a := lo + (k : Int) + 1) hi
      obtain ⟨m, hm⟩ := Int.dvd_of_tmod_eq_zero hd
      have : flo (lo + (k : Int) + 1) iv = m := flo_unique hi (by omega) (by rw [Int.mul_add]; omega)
      rw [hm, Int.mul_comm]
      congr 1
      omega
    · rw [if_neg (fun h => hd h.2), if_neg hd, List.append_nil]
      exact ⟨rfl, h2⟩
end Go.Proofs
