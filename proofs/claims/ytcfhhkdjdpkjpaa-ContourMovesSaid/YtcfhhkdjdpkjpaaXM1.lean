/- ContourMoves: a variable of the call's own whose fields are written, and appending to one of them. -/
import Derived.Test.YtcfhhkdjdpkjpaaXL6
import Derived.Deep.WholeRow
set_option linter.unusedVariables false
set_option linter.unusedSimpArgs false
namespace Go.Proofs
open Go.RowKit Go.Proofs.Mp Go.Lib

/-- block b is a variable of the call's own: the cells cs -/
def Bx (w : World) (b : Nat) (t : TypeId) (cs : List Value) : Prop := Row w b t cs
section
variable {w w' : World} {b : Nat} {t : TypeId} {cs : List Value}
theorem Bx.lt (h : Bx w b t cs) : b < w.heap.size := Row.lt h
theorem Bx.below (h : Bx w b t cs) (hb : Below w.heap.size w w') : Bx w' b t cs := Row.below h hb h.lt
theorem Bx.alloc (h : Bx w b t cs) (o : Obj) : Bx (w.alloc o) b t cs := h.below (bw1 _ _)
theorem Bx.belowS (h : Bx w b t cs) (hb : Below (b + 1) w w') : Bx w' b t cs := Row.below h hb (Nat.lt_succ_self _)
theorem Bx.cell (h : Bx w b t cs) (j : Nat) : w.cell? ⟨b, j, none⟩ = cs[j]? := Row.cell h j
theorem Bx.frozen (h : Bx w b t cs) (j : Nat) : w.frozen? ⟨b, j, none⟩ = false := Row.frozen h j
theorem Bx.new {c : Array Value} (w : World) (hc : c = cs.toArray) : Bx (w.alloc (.cells c t)) w.heap.size t cs := by subst hc; exact heap_alloc_new w _
theorem Bx.eq (h : Bx w b t cs) (j : Nat) (v : Value) : w.setCell ⟨b, j, none⟩ v = w.setRow b (cs.set j v).toArray := by
  rw [setCell_eq_setRow w b j cs.toArray t (0, 0) v h]
  simp
theorem Bx.set (h : Bx w b t cs) (j : Nat) (v : Value) : Bx (w.setCell ⟨b, j, none⟩ v) b t (cs.set j v) := by rw [h.eq]; exact setRow_heap _ _ _ _ _ _ h
theorem Bx.setB (h : Bx w b t cs) {B : Nat} {a : World} (hb : Below B a w) (hB : B ≤ b) (j : Nat) (v : Value) : Below B a (w.setCell ⟨b, j, none⟩ v) := by rw [h.eq]; exact below_setRow hb hB _
theorem Bx.own (h : Bx w b t cs) {α : Type} {e : TypeId} {k base : Nat} {enc : α → List Value} {v : Value} {xs : List α} (ho : Own e k enc w base v xs) (hb : b < base) (j : Nat) (u : Value) : Own e k enc (w.setCell ⟨b, j, none⟩ u) base v xs := by
  rw [h.eq]
  obtain ⟨h1, h2⟩ := ho
  refine ⟨h1, ?_⟩
  rcases h2 with h2 | ⟨g, cap, cur, hv, hg, hh, r⟩
  · exact .inl h2
  · exact .inr ⟨g, cap, cur, hv, hg, by rw [setRow_other _ _ _ _ (by omega)]; exact hh, r⟩
end
/-- a list of one, just laid -/
def SlI1 (w : World) (v : Value) (x : Int) : Prop := ∃ A c, v = .slice A 1 c ∧ RdI w A [x]
def SlP1 (w : World) (v : Value) (x : Pt) : Prop := ∃ A c, v = .slice A 1 c ∧ Rd 2 encR w A [x]
theorem SlI1.below {w w' : World} {v : Value} {x : Int} (h : SlI1 w v x) (hb : Below w.heap.size w w') : SlI1 w' v x := by
  obtain ⟨A, c, e, h⟩ := h
  exact ⟨A, c, e, Rd.below h hb⟩
theorem SlP1.below {w w' : World} {v : Value} {x : Pt} (h : SlP1 w v x) (hb : Below w.heap.size w w') : SlP1 w' v x := by
  obtain ⟨A, c, e, h⟩ := h
  exact ⟨A, c, e, Rd.below h hb⟩
theorem SlI1.new (w : World) (x : Int) : SlI1 (w.alloc (.cells #[.int .i64 x] 3)) (.slice (some ⟨w.heap.size, 0, none⟩) 1 1) x := ⟨_, _, rfl, Row.rd encI_len (t := 3) (heap_alloc_new w _)⟩
theorem SlP1.new (w : World) (x : Pt) : SlP1 (w.alloc (.cells #[.int .i64 x.1, .int .i64 x.2] 23)) (.slice (some ⟨w.heap.size, 0, none⟩) 1 1) x := ⟨_, _, rfl, Row.rd encR_len (t := 23) (heap_alloc_new w _)⟩
theorem SlI1.app {w : World} {base : Nat} {v u : Value} {xs : List Int} {y : Int} {ops : Array Oper} {o : Oper} {a : Act} {K : Act → World → Prop} {Q : Exit → Act → World → Prop} {E : Prop}
    (hown : OwnI 3 w base v xs) (hR : SlI1 w u y) (hgd : o.guard = none) (s x : Operand)
    (ho : o.op = .call { callee := .builtin .append, args := #[s, x], argTypes := #[24, 24] }) (hs : a.eval s = v) (hx : a.eval x = u)
    (hN : xs.length ≤ 1000000000) (hbase : base ≤ w.heap.size)
    (h : ∀ v' w', OwnI 3 w' base v' (xs ++ [y]) → Below base w w' → K (a.put o.dst v') w') :
    if Region.wanted o (yielded ops a.tmps) = true then Oper.wp Try.prog o a w K Q else E := by
  have hw : Region.wanted o (yielded ops a.tmps) = true := by simp [Region.wanted, hgd]
  rw [if_pos hw]
  obtain ⟨i0, hi, hz0, hz1, hz2⟩ := Mp.info_parts Try.infoI
  obtain ⟨A, c, rfl, hRd⟩ := hR
  exact Own.wpAll 24 i0 (.int .i64 0) 8 Try.underlying24 hi hz0 hz1 hz2 rfl (by decide) (by decide) encI_len encI_one s x ho hown hs (ys := [y]) hRd hx (by simp; omega) hbase h
theorem SlP1.app {w : World} {base : Nat} {v u : Value} {xs : List Pt} {y : Pt} {ops : Array Oper} {o : Oper} {a : Act} {K : Act → World → Prop} {Q : Exit → Act → World → Prop} {E : Prop}
    (hown : OwnR 23 w base v xs) (hR : SlP1 w u y) (hgd : o.guard = none) (s x : Operand)
    (ho : o.op = .call { callee := .builtin .append, args := #[s, x], argTypes := #[39, 39] }) (hs : a.eval s = v) (hx : a.eval x = u)
    (hN : xs.length ≤ 1000000000) (hbase : base ≤ w.heap.size)
    (h : ∀ v' w', OwnR 23 w' base v' (xs ++ [y]) → Below base w w' → K (a.put o.dst v') w') :
    if Region.wanted o (yielded ops a.tmps) = true then Oper.wp Try.prog o a w K Q else E := by
  have hw : Region.wanted o (yielded ops a.tmps) = true := by simp [Region.wanted, hgd]
  rw [if_pos hw]
  obtain ⟨i0, hi, hz0, hz1, hz2⟩ := Mp.info_parts Try.infoP
  obtain ⟨A, c, rfl, hRd⟩ := hR
  exact Own.wpAll 39 i0 (.agg #[.int .i64 0, .int .i64 0]) 16 Try.underlying39 hi hz0 hz1 hz2 rfl (by decide) (by decide) encR_len encR_one s x ho hown hs (ys := [y]) hRd hx (by simp; omega) hbase h
theorem Try.size26 : (Try.prog.info? 26).map (·.size) = some 6 := by kernel_rfl
theorem Try.size41 : (Try.prog.info? 41).map (·.size) = some 2 := by kernel_rfl
/-- a variable, just made, gets its value -/
theorem Try.storeNew {ops : Array Oper} {rest : List Oper} {o : Oper} {a : Act} {Q : Exit → Act → World → Prop} {w : World} (t : TypeId) (c d : Array Value) (hgd : o.guard = none) (x y : Operand) (ho : o.op = .store t x y)
    (hx : a.eval x = .pointer (some ⟨w.heap.size, 0, none⟩)) (hy : a.eval y = .agg d) (hi : (Try.prog.info? t).map (·.size) = some d.size) (hs : c.size = d.size) (h1 : d.all (·.oneCell') = true)
    (h : wpList Try.prog ops Q rest (a.put o.dst undef) (w.alloc (.cells d t))) : wpList Try.prog ops Q (o :: rest) a (w.alloc (.cells c t)) :=
  wpList_plain hgd fun _ hK => by
    have hst := run_storeAt_new (P := Try.prog) w t c d hi hs h1
    unfold Oper.wp execOp
    simp only [ho, hx, hy, Sem.run_bind, Sem.run_pure, Result.andThen_ok, hst]
    exact hK _ _ h
/-- a row of the call's own that is not empty -/
theorem OwnR.some_ {e : TypeId} {w : World} {base : Nat} {v : Value} {xs : List Pt} (h : OwnR e w base v xs) (hn : xs.length ≠ 0) : ∃ g cap, v = .slice (some ⟨g, 0, none⟩) xs.length cap ∧ base ≤ g ∧ g < w.heap.size ∧ Rd 2 encR w (some ⟨g, 0, none⟩) xs := by
  have h0 := h
  rcases h.2 with ⟨_, h2⟩ | ⟨g, cap, cur, rfl, hg, hh, _⟩
  · exact absurd h2 hn
  · exact ⟨g, cap, rfl, hg, (Array.getElem?_eq_some_iff.1 hh).1, Own.rd encR_len h0⟩
theorem absI_le {a m : Int} (h1 : -m ≤ a) (h2 : a ≤ m) : absI a ≤ m := by
  unfold absI
  split <;> omega
theorem mul_in {a b m n : Int} (a1 : -m ≤ a) (a2 : a ≤ m) (b1 : 0 ≤ b) (b2 : b ≤ n) (hm : 0 ≤ m) : -(m * n) ≤ a * b ∧ a * b ≤ m * n := by
  have e1 : (-m) * n ≤ (-m) * b := Int.mul_le_mul_of_nonpos_left (by omega) b2
  have e2 : (-m) * b ≤ a * b := Int.mul_le_mul_of_nonneg_right a1 b1
  have e3 : a * b ≤ m * b := Int.mul_le_mul_of_nonneg_right a2 b1
  have e4 : m * b ≤ m * n := Int.mul_le_mul_of_nonneg_left b2 hm
  rw [Int.neg_mul] at e1
  omega
theorem ptE_big {t : Ht} {W H e : Nat} {level : Int} (g : Grd t W H) (h : crsB (abv t level) W H e = true) : -100000000000 ≤ (ptE t W level e).1 ∧ (ptE t W level e).1 ≤ 100000000000 ∧ -100000000000 ≤ (ptE t W level e).2 ∧ (ptE t W level e).2 ≤ 100000000000 := by
  obtain ⟨h1, h2, h3, h4⟩ := crs_ends g h
  obtain ⟨p1, p2, p3, p4⟩ := ptA_vp g h1
  obtain ⟨q1, q2, q3, q4⟩ := ptA_vp g h2
  have v1 := g.all.2.2.2.2.2.2.2.2.2.2 _ h1
  have v2 := g.all.2.2.2.2.2.2.2.2.2.2 _ h2
  unfold ptE
  dsimp only
  generalize ptA t W (loE t W level e) = P at *
  generalize ptA t W (hiE t W level e) = R at *
  generalize t.v[loE t W level e]! = a at *
  generalize t.v[hiE t W level e]! = b at *
  have n1 := mul_in (a := R.1 - P.1) (b := level - a) (m := 2097152) (n := 20000) (by omega) (by omega) (by omega) (by omega) (by omega)
  have n2 := mul_in (a := R.2 - P.2) (b := level - a) (m := 2097152) (n := 20000) (by omega) (by omega) (by omega) (by omega) (by omega)
  have r1 := rnd_near (a := (R.1 - P.1) * (level - a)) (b := b - a) (by omega)
  have r2 := rnd_near (a := (R.2 - P.2) * (level - a)) (b := b - a) (by omega)
  have e1 := absI_le n1.1 n1.2
  have e2 := absI_le n2.1 n2.2
  omega
/-- every point of a line is small -/
theorem line_big {t : Ht} {level : Int} (h0 : chkH t = 0) {l : Ln} (hl : l ∈ linesT t level) {k : Nat} (hk : k < l.2.length) : -100000000000 ≤ l.2[k]!.1 ∧ l.2[k]!.1 ≤ 100000000000 ∧ -100000000000 ≤ l.2[k]!.2 ∧ l.2[k]!.2 ≤ 100000000000 := by
  have g := Grd.of h0
  unfold linesT at hl
  rw [if_pos h0] at hl
  obtain ⟨_, _, h3, _⟩ := edges_law g hl
  have hm : l.2[k]! ∈ l.2 := by rw [getElem!_pos _ k hk]; exact List.getElem_mem hk
  obtain ⟨e, he, hp⟩ := h3 _ hm
  rw [← hp]
  exact ptE_big g (List.mem_filter.1 he).2
theorem line_two {t : Ht} {level : Int} (h0 : chkH t = 0) {l : Ln} (hl : l ∈ linesT t level) : 2 ≤ l.2.length := by
  have g := Grd.of h0
  unfold linesT at hl
  rw [if_pos h0] at hl
  exact (edges_law g hl).2.1
end Go.Proofs
