/- The chapter's examples: what the functions are there. -/
import Derived.Test.YtnckglojbhlekaaW2
set_option linter.unusedVariables false
set_option linter.unusedSimpArgs false
namespace Go.Proofs
open Go.RowKit Go.Proofs.Mp

def exV : List Int := [100, 100, 0, 100, 100, 0, 0, 100, 0]
theorem exV_eq : setsL [0, 1, 3, 4, 7] = exV := by decide
section
variable (b2 b3 b4 b5 c2 c3 c4 c5 : Nat)
theorem ex_colE (v : List Int) (h : chk ⟨3, 3, some ⟨b5, 0, none⟩, 9, v⟩ = 0) : colE (blkP b2 b3 b4 b5 v) = 0 := by
  have h0 : ∀ b, chk ⟨3, 3, some ⟨b, 0, none⟩, 9, zer9⟩ = 0 := fun b => by rfl
  refine colE_even ?_ ?_
  · intro j hj
    rcases j with _ | _ | _ | _ | j
    · exact h0 b2
    · exact h0 b3
    · exact h0 b4
    · exact h
    · omega
  · intro j hj
    rcases j with _ | _ | _ | _ | j
    · exact ⟨rfl, rfl⟩
    · exact ⟨rfl, rfl⟩
    · exact ⟨rfl, rfl⟩
    · exact ⟨rfl, rfl⟩
    · omega
theorem ex_colA : colE (blkP b2 b3 b4 b5 zer9) = 0 := ex_colE b2 b3 b4 b5 zer9 rfl
theorem ex_colB : colE (blkP b2 b3 b4 b5 exV) = 0 := ex_colE b2 b3 b4 b5 exV rfl
theorem ex_bxE : bxE (blkP b2 b3 b4 b5 zer9) (blkP c2 c3 c4 c5 exV) = 0 := bxE_z (ex_colA _ _ _ _) (ex_colB _ _ _ _) ⟨rfl, rfl⟩
theorem ex_listA : colL (blkP b2 b3 b4 b5 zer9) = [0, 0, 0, 0, 0, 0, 0, 0, 0] := by rfl
theorem ex_listB : colL (blkP b2 b3 b4 b5 exV) = exV := by rfl
theorem ex_bxL : bxL (blkP b2 b3 b4 b5 zer9) (blkP c2 c3 c4 c5 exV) = [⟨0, 0, 1, 1⟩, ⟨1, 2, 1, 2⟩] := by
  have h : ∀ y, bxRun (blkP b2 b3 b4 b5 zer9) (blkP c2 c3 c4 c5 exV) y = rowRuns (rowOf [0, 0, 0, 0, 0, 0, 0, 0, 0] (y * 3) 3) (rowOf exV (y * 3) 3) y 3 := fun y => by
    unfold bxRun
    rw [ex_listA, ex_listB]
    rfl
  show bxTo _ _ 3 = _
  simp only [bxTo, h]
  decide
theorem ex_bxR : bxR (blkP b2 b3 b4 b5 zer9) (blkP c2 c3 c4 c5 exV) = [⟨0, 0, 1, 1⟩, ⟨1, 2, 1, 2⟩] := by
  unfold bxR
  rw [if_pos (ex_bxE _ _ _ _ _ _ _ _), ex_bxL]
theorem ex_colR : colR (blkP b2 b3 b4 b5 exV) = exV := by
  unfold colR
  rw [if_pos (ex_colB _ _ _ _), ex_listB]
theorem ex_mg : mg [] [⟨2, blkP b2 b3 b4 b5 zer9⟩] = [.one ⟨2, blkP b2 b3 b4 b5 zer9⟩] := by rw [mg01, mg00]
theorem ex_asc : ascB (shs ([] : List Pd)) = true ∧ ascB (shs [⟨2, blkP b2 b3 b4 b5 zer9⟩]) = true := ⟨rfl, rfl⟩
theorem ex_evE : evE [.one ⟨2, blkP b2 b3 b4 b5 zer9⟩] = 0 := by
  have h : stE (.one ⟨2, blkP b2 b3 b4 b5 zer9⟩) = 0 := ex_colA b2 b3 b4 b5
  rw [ev_ok h]; rfl
theorem ex_erE : erE [] [⟨2, blkP b2 b3 b4 b5 zer9⟩] = 0 := by
  unfold erE
  rw [if_pos (ex_asc b2 b3 b4 b5), ex_mg]
  exact ex_evE b2 b3 b4 b5
theorem ex_erL : erL [] [⟨2, blkP b2 b3 b4 b5 zer9⟩] = [⟨2, ⟨0, 0, 2, 2⟩⟩] := by
  unfold erL
  rw [if_pos (ex_asc b2 b3 b4 b5), ex_mg]
  unfold evL
  rw [if_pos (ex_evE b2 b3 b4 b5)]
  show whL 2 (blkP b2 b3 b4 b5 zer9) ++ [] = _
  unfold whL
  rw [if_pos (ex_colA b2 b3 b4 b5)]
  rfl
end
def wide (x : P4) : P4 := { x with p1 := { x.p1 with w := 4 } }
theorem ex_wide (b2 b3 b4 b5 : Nat) : colE (wide (blkP b2 b3 b4 b5 zer9)) = 1 := by rfl
theorem cells4_wide (x : P4) : (cells4 x).set 3 (.int .i64 4) = cells4 (wide x) := rfl
theorem blk_few {x : P4} {v : List Int} (h : Blk x v) (hv : v.length ≤ 200) : Few4 x 200 := by
  obtain ⟨b2, b3, b4, b5, rfl⟩ := h
  intro j
  rcases j with _ | _ | _ | j
  · show 9 ≤ 200; omega
  · show 9 ≤ 200; omega
  · show 9 ≤ 200; omega
  · exact hv

theorem Try.load25x {ops : Array Oper} {rest : List Oper} {o : Oper} {a : Act} {Q : Exit → Act → World → Prop} {w : World} (q : P4) (hgd : o.guard = none) (x : Operand) (ho : o.op = .load 25 x)
    (b off : Nat) (hx : a.eval x = .pointer (some ⟨b, off, none⟩)) (hc : w.rangeAt b off (cells4 q))
    (h : wpList Try.prog ops Q rest (a.put o.dst (.agg #[.int .i64 q.p0.w, .int .i64 q.p0.h, .slice q.p0.a q.p0.v.length q.p0.c, .int .i64 q.p1.w, .int .i64 q.p1.h, .slice q.p1.a q.p1.v.length q.p1.c, .int .i64 q.p2.w, .int .i64 q.p2.h, .slice q.p2.a q.p2.v.length q.p2.c, .int .i64 q.p3.w, .int .i64 q.p3.h, .slice q.p3.a q.p3.v.length q.p3.c])) w) : wpList Try.prog ops Q (o :: rest) a w :=
  Try.load25 q hgd x ho b off hx hc h
theorem sl5 (w : World) : RdI (w.alloc (.cells #[.int .i64 0, .int .i64 1, .int .i64 3, .int .i64 4, .int .i64 7] 3)) (some ⟨w.heap.size, 0, none⟩) [0, 1, 3, 4, 7] := rd_new encI_len w _ 3 _ rfl
theorem c_black0 (w : World) : Calls Try.prog 25 #[.slice none 0 0] w (fun e w' => ∃ x, e = .returned (agg4 x) ∧ Blk x zer9 ∧ Rd4 w' x ∧ Below w.heap.size w w') :=
  black_any none 0 [] w (by simp) (fun j hj => by simp at hj) (Rd.nil _)
theorem c_black5 (w : World) (B : Nat) (h : RdI w (some ⟨B, 0, none⟩) [0, 1, 3, 4, 7]) : Calls Try.prog 25 #[.slice (some ⟨B, 0, none⟩) 5 5] w (fun e w' => ∃ x, e = .returned (agg4 x) ∧ Blk x exV ∧ Rd4 w' x ∧ Below w.heap.size w w') := by
  have := black_any (some ⟨B, 0, none⟩) 5 [0, 1, 3, 4, 7] w (by simp) (fun j hj => by
    rcases j with _ | _ | _ | _ | _ | j
    · decide
    · decide
    · decide
    · decide
    · decide
    · simp at hj; omega) h
  rw [exV_eq] at this
  exact this

theorem Rd.setRowB {α : Type} [Inhabited α] {k : Nat} {enc : α → List Value} {w : World} {A : Option Addr} {xs : List α} (h : Rd k enc w A xs) {B : Nat} {t : TypeId} {cs : List Value} (hR : Mp.Row w B t cs) (hn : 0 < xs.length) (u : Value) (hu : (enc xs[0]!)[0]? = some u) (hne : u ∉ cs) (c : Array Value) :
    Rd k enc (w.setRow B c) A xs := by
  rcases h with rfl | ⟨b, off, rfl, hb, hc⟩
  · simp at hn
  · have hbB : b ≠ B := by
      rintro rfl
      have h0 := hc 0 hn 0 u hu
      rw [hR.cell] at h0
      exact hne (List.mem_of_getElem? h0)
    exact .inr ⟨b, off, rfl, by simpa using hb, fun j hj i v hv => (cell_setRow_other w B c ⟨b, off + j * k + i, none⟩ hbB).trans (hc j hj i v hv)⟩
theorem ex_not {x : P4} (h : Blk x zer9) {n : Int} (hn : n ≠ 3) : Value.int .i64 n ∉ cells4 x := by
  obtain ⟨b2, b3, b4, b5, rfl⟩ := h
  simp [cells4, blkP, hn]
theorem wide_few {x : P4} (h : Few4 x 200) : Few4 (wide x) 200 := fun j => by
  rcases j with _ | _ | _ | j
  · exact h 0
  · exact h 1
  · exact h 2
  · exact h 3
theorem wide_rd {w : World} {x : P4} (h : Rd4 w x) : Rd4 w (wide x) := fun j => by
  rcases j with _ | _ | _ | j
  · exact h 0
  · exact h 1
  · exact h 2
  · exact h 3
theorem Rd.setRowI {w : World} {A : Option Addr} {xs : List Int} (h : RdI w A xs) {B : Nat} {x : P4} (hx : Blk x zer9) (hR : Mp.Row w B 25 (cells4 x)) (hn : 0 < xs.length) (h0 : xs[0]! ≠ 3) (c : Array Value) : RdI (w.setRow B c) A xs :=
  Rd.setRowB h hR hn (.int .i64 xs[0]!) rfl (ex_not hx h0) c

set_option maxRecDepth 100000 in
set_option maxHeartbeats 4000000 in
theorem awake_any (w : World) : Calls Try.prog 10 #[] w (RetV w (.bool true)) := by
  go_enter Try.func10, Try.ntmps10
  go_wp2_with fail
  refine (c_black0 _).mono ?_
  rintro e w1 ⟨xa, rfl, hxa, hra, hb1⟩
  have h5 := sl5 w1
  go_wp2_with fail
  refine (c_black5 _ _ h5).mono ?_
  rintro e w2 ⟨xb, rfl, hxb, hrb, hb2⟩
  have k2 : Below w.heap.size w w2 := (hb1.alloc hb1.size _).trans (hb2.mono (by have := hb1.size; simp; omega))
  have hra2 : Rd4 w2 xa := (hra.below (bw1 _ _)).below hb2
  clear h5 hb2 hra hb1
  have hr1 : Mp.Row ((w2.alloc (.cells #[.int .i64 0, .int .i64 0, .slice none 0 0, .int .i64 0, .int .i64 0, .slice none 0 0, .int .i64 0, .int .i64 0, .slice none 0 0, .int .i64 0, .int .i64 0, .slice none 0 0] 25)).alloc (.cells #[.int .i64 0, .int .i64 0, .slice none 0 0, .int .i64 0, .int .i64 0, .slice none 0 0, .int .i64 0, .int .i64 0, .slice none 0 0, .int .i64 0, .int .i64 0, .slice none 0 0] 25)) w2.heap.size 25 [.int .i64 0, .int .i64 0, .slice none 0 0, .int .i64 0, .int .i64 0, .slice none 0 0, .int .i64 0, .int .i64 0, .slice none 0 0, .int .i64 0, .int .i64 0, .slice none 0 0] := (Row.newAt rfl rfl).alloc _
  have hr2 : Mp.Row (((w2.alloc (.cells #[.int .i64 0, .int .i64 0, .slice none 0 0, .int .i64 0, .int .i64 0, .slice none 0 0, .int .i64 0, .int .i64 0, .slice none 0 0, .int .i64 0, .int .i64 0, .slice none 0 0] 25)).alloc (.cells #[.int .i64 0, .int .i64 0, .slice none 0 0, .int .i64 0, .int .i64 0, .slice none 0 0, .int .i64 0, .int .i64 0, .slice none 0 0, .int .i64 0, .int .i64 0, .slice none 0 0] 25)).setRow w2.heap.size (cells4 xa).toArray) (w2.heap.size + 1) 25 [.int .i64 0, .int .i64 0, .slice none 0 0, .int .i64 0, .int .i64 0, .slice none 0 0, .int .i64 0, .int .i64 0, .slice none 0 0, .int .i64 0, .int .i64 0, .slice none 0 0] := (Row.newAt (by simp) rfl).setOther (by omega) _
  have hw0 : Below w2.heap.size w2 ((((w2.alloc (.cells #[.int .i64 0, .int .i64 0, .slice none 0 0, .int .i64 0, .int .i64 0, .slice none 0 0, .int .i64 0, .int .i64 0, .slice none 0 0, .int .i64 0, .int .i64 0, .slice none 0 0] 25)).alloc (.cells #[.int .i64 0, .int .i64 0, .slice none 0 0, .int .i64 0, .int .i64 0, .slice none 0 0, .int .i64 0, .int .i64 0, .slice none 0 0, .int .i64 0, .int .i64 0, .slice none 0 0] 25)).setRow w2.heap.size (cells4 xa).toArray).setRow (w2.heap.size + 1) (cells4 xb).toArray) :=
    below_setRow (below_setRow ((bw1 _ _).alloc (by simp) _) (Nat.le_refl _) _) (by omega) _
  have hR1 : Mp.Row ((((w2.alloc (.cells #[.int .i64 0, .int .i64 0, .slice none 0 0, .int .i64 0, .int .i64 0, .slice none 0 0, .int .i64 0, .int .i64 0, .slice none 0 0, .int .i64 0, .int .i64 0, .slice none 0 0] 25)).alloc (.cells #[.int .i64 0, .int .i64 0, .slice none 0 0, .int .i64 0, .int .i64 0, .slice none 0 0, .int .i64 0, .int .i64 0, .slice none 0 0, .int .i64 0, .int .i64 0, .slice none 0 0] 25)).setRow w2.heap.size (cells4 xa).toArray).setRow (w2.heap.size + 1) (cells4 xb).toArray) w2.heap.size 25 (cells4 xa) := (hr1.setSame _).setOther (by omega) _
  have hR2 : Mp.Row ((((w2.alloc (.cells #[.int .i64 0, .int .i64 0, .slice none 0 0, .int .i64 0, .int .i64 0, .slice none 0 0, .int .i64 0, .int .i64 0, .slice none 0 0, .int .i64 0, .int .i64 0, .slice none 0 0] 25)).alloc (.cells #[.int .i64 0, .int .i64 0, .slice none 0 0, .int .i64 0, .int .i64 0, .slice none 0 0, .int .i64 0, .int .i64 0, .slice none 0 0, .int .i64 0, .int .i64 0, .slice none 0 0] 25)).setRow w2.heap.size (cells4 xa).toArray).setRow (w2.heap.size + 1) (cells4 xb).toArray) (w2.heap.size + 1) 25 (cells4 xb) := hr2.setSame _
  go_upto_region 2 with first
    | (refine Try.store25 xa rfl (.tmp 1) (.tmp 13) rfl w2.heap.size rfl rfl hr1 rfl ?_)
    | (refine Try.store25 xb rfl (.tmp 2) (.tmp 15) rfl (w2.heap.size + 1) rfl rfl hr2 rfl ?_)
  try simp only [Act.put]
  clear hr1 hr2
  have hra3 := hra2.below hw0
  have hrb3 := hrb.below hw0
  have k3 := k2.trans (hw0.mono k2.size)
  have hsz := k2.size
  clear hra2 hrb hw0 k2
  generalize ((((w2.alloc (.cells #[.int .i64 0, .int .i64 0, .slice none 0 0, .int .i64 0, .int .i64 0, .slice none 0 0, .int .i64 0, .int .i64 0, .slice none 0 0, .int .i64 0, .int .i64 0, .slice none 0 0] 25)).alloc (.cells #[.int .i64 0, .int .i64 0, .slice none 0 0, .int .i64 0, .int .i64 0, .slice none 0 0, .int .i64 0, .int .i64 0, .slice none 0 0, .int .i64 0, .int .i64 0, .slice none 0 0] 25)).setRow w2.heap.size (cells4 xa).toArray).setRow (w2.heap.size + 1) (cells4 xb).toArray) = w3 at *
  generalize w2.heap.size = B at *
  have hBB := hR2.lt
  -- Boxes
  go_wp2_with first
    | (refine Try.load25x xa rfl (.tmp 1) rfl B 0 rfl (hR1).range ?_)
    | (refine Try.load25x xb rfl (.tmp 2) rfl (B + 1) 0 rfl (hR2).range ?_)
  refine (proof_boxes xa xb w3 (blk_few hxa (by decide)) (blk_few hxb (by decide)) hra3 hrb3).mono ?_
  rintro e w4 ⟨v1, rfl, hv1, hb4⟩
  have hE : bxE xa xb = 0 ∧ bxR xa xb = [⟨0, 0, 1, 1⟩, ⟨1, 2, 1, 2⟩] := by
    obtain ⟨a2, a3, a4, a5, rfl⟩ := hxa
    obtain ⟨c2, c3, c4, c5, rfl⟩ := hxb
    exact ⟨ex_bxE _ _ _ _ _ _ _ _, ex_bxR _ _ _ _ _ _ _ _⟩
  rw [hE.1]
  rw [hE.2] at hv1
  clear hE
  have k4 := k3.trans (hb4.mono k3.size)
  have hs4 := hb4.size
  replace hR1 := hR1.below hb4 (by omega)
  replace hR2 := hR2.below hb4 (by omega)
  replace hra3 := hra3.below hb4
  replace hrb3 := hrb3.below hb4
  clear hb4 k3
  -- Colors
  go_wp2_with (refine Try.load25x xb rfl (.tmp 2) rfl (B + 1) 0 rfl (hR2).range ?_)
  refine (colors_any xb w4 (fun j => Nat.le_trans (blk_few hxb (by decide) j) (by omega)) hrb3).mono ?_
  rintro e w5 ⟨v2, rfl, hv2, hb5⟩
  have hE : colE xb = 0 ∧ colR xb = exV := by
    obtain ⟨c2, c3, c4, c5, rfl⟩ := hxb
    exact ⟨ex_colB _ _ _ _, ex_colR _ _ _ _⟩
  rw [hE.1]
  rw [hE.2] at hv2
  clear hE
  have k5 := k4.trans (hb5.mono k4.size)
  have hs5 := hb5.size
  replace hR1 := hR1.below hb5 (by omega)
  replace hra3 := hra3.below hb5
  replace hv1 := hv1.below hb5
  clear hb5 k4 hrb3 hR2
  -- Errata
  have hal : Below w5.heap.size w5 (w5.alloc (.cells #[.int .i64 2, .int .i64 0, .slice none 0 0, .slice none 0 0, .slice none 0 0, .slice none 0 0, .int .i64 xa.p0.w, .int .i64 xa.p0.h, .slice xa.p0.a xa.p0.v.length xa.p0.c, .int .i64 xa.p1.w, .int .i64 xa.p1.h, .slice xa.p1.a xa.p1.v.length xa.p1.c, .int .i64 xa.p2.w, .int .i64 xa.p2.h, .slice xa.p2.a xa.p2.v.length xa.p2.c, .int .i64 xa.p3.w, .int .i64 xa.p3.h, .slice xa.p3.a xa.p3.v.length xa.p3.c, .int .u64 0] 59)) := bw1 _ _
  have hsp : SlP (w5.alloc (.cells #[.int .i64 2, .int .i64 0, .slice none 0 0, .slice none 0 0, .slice none 0 0, .slice none 0 0, .int .i64 xa.p0.w, .int .i64 xa.p0.h, .slice xa.p0.a xa.p0.v.length xa.p0.c, .int .i64 xa.p1.w, .int .i64 xa.p1.h, .slice xa.p1.a xa.p1.v.length xa.p1.c, .int .i64 xa.p2.w, .int .i64 xa.p2.h, .slice xa.p2.a xa.p2.v.length xa.p2.c, .int .i64 xa.p3.w, .int .i64 xa.p3.h, .slice xa.p3.a xa.p3.v.length xa.p3.c, .int .u64 0] 59)) (.slice (some ⟨w5.heap.size, 0, none⟩) 1 1) [⟨2, xa⟩] :=
    ⟨_, _, rfl, Nat.le_refl _, by simp, rd_one w5 ⟨2, xa⟩, fun x hx => by rw [List.mem_singleton.1 hx]; exact ⟨blk_few hxa (by decide), hra3.below hal⟩⟩
  go_wp2_with (refine Try.load25x xa rfl (.tmp 1) rfl B 0 rfl (hR1).range ?_)
  refine (proof_errata (.slice none 0 0) _ [] [⟨2, xa⟩] _ ⟨none, 0, rfl, Nat.le_refl _, by simp, Rd.nil _, fun x hx => by cases hx⟩ hsp).mono ?_
  rintro e w6 ⟨v3, rfl, hv3, hb6⟩
  have hE : erE [] [⟨2, xa⟩] = 0 ∧ erL [] [⟨2, xa⟩] = [⟨2, ⟨0, 0, 2, 2⟩⟩] := by
    obtain ⟨c2, c3, c4, c5, rfl⟩ := hxa
    exact ⟨ex_erE _ _ _ _, ex_erL _ _ _ _⟩
  rw [hE.1]
  rw [hE.2] at hv3
  have hb56 := hal.trans (hb6.mono hal.size)
  clear hE hsp hal hb6
  have k6 := k5.trans (hb56.mono k5.size)
  have hs6 := hb56.size
  replace hR1 := hR1.below hb56 (by omega)
  replace hra3 := hra3.below hb56
  replace hv1 := hv1.below hb56
  replace hv2 := hv2.below hb56
  clear hb56 k5
  -- Sheet
  go_wp2_with (refine Try.load25x xa rfl (.tmp 1) rfl B 0 rfl (hR1).range ?_)
  refine (proof_sheet 1 2 xa xa w6 (blk_few hxa (by decide)) (blk_few hxa (by decide)) hra3 hra3).mono ?_
  rintro e w7 ⟨v4, rfl, _, hb7⟩
  rw [show shE 1 2 xa xa = 1 from by unfold shE; rw [if_neg (by omega)]]
  have k7 := k6.trans (hb7.mono k6.size)
  have hs7 := hb7.size
  replace hR1 := hR1.below hb7 (by omega)
  replace hra3 := hra3.below hb7
  replace hv1 := hv1.below hb7
  replace hv2 := hv2.below hb7
  replace hv3 := hv3.below hb7
  clear hb7 k6
  -- the wider plate
  have hcell := hR1.cell 3
  have hfro := hR1.frozen 3
  simp only [cells4, List.getElem?_cons_succ, List.getElem?_cons_zero] at hcell
  go_upto_region 7 with fail
  clear hcell hfro
  have hset := hR1.cellSet 3 (.int .i64 4)
  rw [cells4_wide] at hset
  rw [hset]
  have hbs : Below w.heap.size w (w7.setRow B (cells4 (wide xa)).toArray) := below_setRow k7 hsz _
  have hRw := hR1.setSame (cells4 (wide xa))
  have hv1' : SlX (w7.setRow B (cells4 (wide xa)).toArray) v1 [⟨0, 0, 1, 1⟩, ⟨1, 2, 1, 2⟩] := by
    obtain ⟨A, c, e, h⟩ := hv1
    exact ⟨A, c, e, Rd.setRowB h hR1 (by simp) _ rfl (ex_not hxa (by decide)) _⟩
  have hv2' : SlI (w7.setRow B (cells4 (wide xa)).toArray) v2 exV := by
    obtain ⟨A, c, e, e2, h⟩ := hv2
    exact ⟨A, c, e, e2, Rd.setRowB h hR1 (by decide) _ rfl (ex_not hxa (by decide)) _⟩
  have hv3' : SlD (w7.setRow B (cells4 (wide xa)).toArray) v3 [⟨2, ⟨0, 0, 2, 2⟩⟩] := by
    obtain ⟨A, c, e, e2, h⟩ := hv3
    exact ⟨A, c, e, e2, Rd.setRowB h hR1 (by simp) _ rfl (ex_not hxa (by decide)) _⟩
  have hrw : Rd4 (w7.setRow B (cells4 (wide xa)).toArray) (wide xa) := by
    refine wide_rd fun j => ?_
    have hj := hra3 j
    have e : (xa.get j).v = zer9 := by
      obtain ⟨c2, c3, c4, c5, rfl⟩ := hxa
      rcases j with _ | _ | _ | j <;> rfl
    rw [e] at hj ⊢
    exact Rd.setRowI hj hxa hR1 (by decide) (by decide) _
  clear hv1 hv2 hv3 hra3 hset hR1 k7
  generalize (w7.setRow B (cells4 (wide xa)).toArray) = w8 at *
  -- Colors
  go_wp2_with (refine Try.load25x (wide xa) rfl (.tmp 1) rfl B 0 rfl hRw.range ?_)
  refine (colors_any (wide xa) w8 (fun j => Nat.le_trans (wide_few (blk_few hxa (by decide)) j) (by omega)) hrw).mono ?_
  rintro e w9 ⟨v5, rfl, _, hb9⟩
  have hE : colE (wide xa) = 1 := by
    obtain ⟨c2, c3, c4, c5, rfl⟩ := hxa
    exact ex_wide _ _ _ _
  rw [hE]
  clear hE
  have k9 := hbs.trans (hb9.mono hbs.size)
  replace hv1' := hv1'.below hb9
  replace hv2' := hv2'.below hb9
  replace hv3' := hv3'.below hb9
  clear hb9 hbs hrw hRw
  -- the long test
  have hal : Below w9.heap.size w9 (w9.alloc (.cells #[.int .i64 0, .int .i64 0, .int .i64 1, .int .i64 1, .int .i64 1, .int .i64 2, .int .i64 1, .int .i64 2] 38)) := bw1 _ _
  have hx2 : SlX (w9.alloc (.cells #[.int .i64 0, .int .i64 0, .int .i64 1, .int .i64 1, .int .i64 1, .int .i64 2, .int .i64 1, .int .i64 2] 38)) (.slice (some ⟨w9.heap.size, 0, none⟩) 2 2) [⟨0, 0, 1, 1⟩, ⟨1, 2, 1, 2⟩] :=
    ⟨_, _, rfl, rd_new encX_len w9 _ 38 [⟨0, 0, 1, 1⟩, ⟨1, 2, 1, 2⟩] rfl⟩
  go_wp2_with fail
  refine (c_sameX (hv1'.below hal) hx2 (by simp) (by simp)).mono ?_
  rintro e w10 ⟨rfl, hb10⟩
  rw [show decide (([⟨0, 0, 1, 1⟩, ⟨1, 2, 1, 2⟩] : List Bx) = [⟨0, 0, 1, 1⟩, ⟨1, 2, 1, 2⟩]) = true from decide_eq_true rfl]
  have hb910 := hal.trans (hb10.mono hal.size)
  have k10 := k9.trans (hb910.mono k9.size)
  replace hv2' := hv2'.below hb910
  replace hv3' := hv3'.below hb910
  clear hx2 hal hb10 hb910 k9 hv1'
  obtain ⟨A2, c2, rfl, hc2, hr2⟩ := hv2'
  obtain ⟨b2, off2, rfl, hbl2, hcc⟩ := RdI.getAll hr2 (Below.refl _ _) (j := 0) (by decide)
  have q0 : w10.cell? ⟨b2, off2, none⟩ = some (.int .i64 100) := by simpa [exV] using hcc 0 (by decide)
  have q2 : w10.cell? ⟨b2, off2 + 2, none⟩ = some (.int .i64 0) := by simpa [exV] using hcc 2 (by decide)
  have hle : exV.length = 9 := rfl
  rw [hle] at *
  clear hcc hr2 hle
  have hal : Below w10.heap.size w10 (w10.alloc (.cells #[.int .i64 2, .int .i64 0, .int .i64 0, .int .i64 2, .int .i64 2] 65)) := bw1 _ _
  have hx2 : SlD (w10.alloc (.cells #[.int .i64 2, .int .i64 0, .int .i64 0, .int .i64 2, .int .i64 2] 65)) (.slice (some ⟨w10.heap.size, 0, none⟩) 1 1) [⟨2, ⟨0, 0, 2, 2⟩⟩] := slD_new w10 2 ⟨0, 0, 2, 2⟩
  go_wp2_with fail
  refine (c_sameD (hv3'.below hal) hx2 (by simp) (by simp)).mono ?_
  rintro e w11 ⟨rfl, hb11⟩
  rw [show decide (([⟨2, ⟨0, 0, 2, 2⟩⟩] : List Df) = [⟨2, ⟨0, 0, 2, 2⟩⟩]) = true from decide_eq_true rfl]
  have hb1011 := hal.trans (hb11.mono hal.size)
  have k11 := k10.trans (hb1011.mono k10.size)
  clear hx2 hal hb11 hb1011 k10 hv3' q0 q2
  go_wp2
  go_ret
  exact RetV.bool rfl k11
end Go.Proofs
