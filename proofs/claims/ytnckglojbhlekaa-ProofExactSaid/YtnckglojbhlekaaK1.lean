/- black: four plates of three by three cells. -/
import Derived.Test.YtnckglojbhlekaaQ4
import Derived.Deep.OwnRows
import Derived.Deep.MidRow
import Derived.Deep.WholeRow
import Derived.Handy
import Derived.Deep.Heap
set_option linter.unusedVariables false
set_option linter.unusedSimpArgs false
namespace Go.Proofs
open Go.RowKit Go.Proofs.Mp

theorem Mp.Row.setSame {w : World} {g : Nat} {t : TypeId} {cs : List Value} (h : Row w g t cs) (cs' : List Value) : Row (w.setRow g cs'.toArray) g t cs' := setRow_heap _ _ _ _ _ _ h
theorem Mp.Row.setOther {w : World} {g k : Nat} {t : TypeId} {cs : List Value} (h : Row w k t cs) (hn : k ≠ g) (cs' : Array Value) : Row (w.setRow g cs') k t cs := (setRow_other _ _ _ _ hn).trans h
theorem Mp.Row.cellSet {w : World} {g : Nat} {t : TypeId} {cs : List Value} (h : Row w g t cs) (i : Nat) (v : Value) : w.setCell ⟨g, i, none⟩ v = w.setRow g (cs.set i v).toArray := by
  rw [setCell_eq_setRow w g i cs.toArray t (0, 0) v h]
  simp
theorem Mp.Row.new (w : World) (cs : List Value) (t : TypeId) : Row (w.alloc (.cells cs.toArray t)) w.heap.size t cs := heap_alloc_last w _
theorem Mp.Row.newAt {w : World} {g : Nat} {cs : List Value} {c : Array Value} {t : TypeId} (hg : w.heap.size = g) (hc : c = cs.toArray) : Row (w.alloc (.cells c t)) g t cs := by subst hg; subst hc; exact heap_alloc_last w _
theorem Mp.Row.alloc {w : World} {g : Nat} {t : TypeId} {cs : List Value} (h : Row w g t cs) (o : Obj) : Row (w.alloc o) g t cs := (Below.heap_alloc _ _ _ h.lt).trans h
theorem Mp.Row.range {w : World} {g : Nat} {t : TypeId} {cs : List Value} (h : Row w g t cs) : w.rangeAt g 0 cs := fun j v hv => by rw [Nat.zero_add, h.cell]; exact hv

/-- the cells of four plates -/
def cells4 (x : P4) : List Value := [.int .i64 x.p0.w, .int .i64 x.p0.h, .slice x.p0.a x.p0.v.length x.p0.c, .int .i64 x.p1.w, .int .i64 x.p1.h, .slice x.p1.a x.p1.v.length x.p1.c, .int .i64 x.p2.w, .int .i64 x.p2.h, .slice x.p2.a x.p2.v.length x.p2.c, .int .i64 x.p3.w, .int .i64 x.p3.h, .slice x.p3.a x.p3.v.length x.p3.c]
theorem cells4_one (x : P4) : ∀ u ∈ cells4 x, u.oneCell' = true := by
  intro u hu
  simp only [cells4, List.mem_cons, List.not_mem_nil, or_false] at hu
  rcases hu with rfl | rfl | rfl | rfl | rfl | rfl | rfl | rfl | rfl | rfl | rfl | rfl <;> rfl
theorem Try.size25 : (Try.prog.info? 25).map (·.size) = some 12 := by kernel_rfl
theorem Try.load25 {ops : Array Oper} {rest : List Oper} {o : Oper} {a : Act} {Q : Exit → Act → World → Prop} {w : World} (q : P4) (hgd : o.guard = none) (x : Operand) (ho : o.op = .load 25 x)
    (b off : Nat) (hx : a.eval x = .pointer (some ⟨b, off, none⟩)) (hc : w.rangeAt b off (cells4 q))
    (h : wpList Try.prog ops Q rest (a.put o.dst (agg4 q)) w) : wpList Try.prog ops Q (o :: rest) a w :=
  wpList_load_mid hgd 25 x ho b off hx (cells4 q) _ hc Try.underlying25 rfl Try.size25 h
theorem Try.store25 {ops : Array Oper} {rest : List Oper} {o : Oper} {a : Act} {Q : Exit → Act → World → Prop} {w : World} (q : P4) {old : List Value} (hgd : o.guard = none) (x y : Operand) (ho : o.op = .store 25 x y)
    (b : Nat) (hx : a.eval x = .pointer (some ⟨b, 0, none⟩)) (hy : a.eval y = agg4 q) (hr : Row w b 25 old) (hl : old.length = 12)
    (h : wpList Try.prog ops Q rest (a.put o.dst undef) (w.setRow b (cells4 q).toArray)) : wpList Try.prog ops Q (o :: rest) a w :=
  wpList_plain hgd fun _ hK => by
    have hst := run_storeVar_row (P := Try.prog) w b 25 25 old.toArray (cells4 q).toArray hr Try.size25 (by simp [hl, cells4]) (all_oneCell_toArray (cells4_one q))
    have hy' : a.eval y = .agg (cells4 q).toArray := hy
    unfold Oper.wp execOp
    simp only [ho, hx, hy', Instr.storeAt, Instr.sureAddr, Sem.run_bind, Sem.run_pure, Result.andThen_ok, hst]
    exact hK _ _ h
theorem Try.var25 (w : World) (b : Nat) (q : P4) (h : w.rangeAt b 0 (cells4 q)) : (loadVar 25 ⟨b, 0, none⟩).run Try.prog w = .ok (agg4 q) w :=
  run_loadVar_mid (P := Try.prog) w b 0 25 (cells4 q) _ h Try.underlying25 rfl Try.size25
theorem Try.res25 (w : World) (b : Nat) (q : P4) (tm : Array Value) (h2 : tm.getD 2 undef = .pointer (some ⟨b, 0, none⟩)) (h : w.rangeAt b 0 (cells4 q)) :
    (results Try.f25 tm).run Try.prog w = .ok (agg4 q) w := by
  have hl := Try.var25 w b q h
  unfold results
  rw [Try.results25]
  simp only [Array.getD_eq_getD_getElem?] at h2
  simp [h2, hl, asAddr, Sem.run_bind, Sem.run_pure]

def setsL (cs : List Int) : List Int := cs.foldl (fun v i => v.set i.toNat 100) (List.replicate 9 0)
def setsK (cs : List Int) (k : Nat) : List Int := setsL (cs.take k)
theorem setsK_succ (cs : List Int) {k : Nat} (h : k < cs.length) : setsK cs (k + 1) = (setsK cs k).set cs[k]!.toNat 100 := foldl_take_succ _ _ _ _ h
theorem setsL_len (cs : List Int) : (setsL cs).length = 9 := by
  unfold setsL
  have : ∀ (l : List Int) (v : List Int), (l.foldl (fun v i => v.set i.toNat 100) v).length = v.length := by
    intro l
    induction l with
    | nil => intro v; rfl
    | cons x l ih => intro v; rw [List.foldl_cons, ih, List.length_set]
  rw [this]; rfl
def zer9 : List Int := List.replicate 9 0
def blkP (b2 b3 b4 b5 : Nat) (v : List Int) : P4 := ⟨⟨3, 3, some ⟨b2, 0, none⟩, 9, zer9⟩, ⟨3, 3, some ⟨b3, 0, none⟩, 9, zer9⟩, ⟨3, 3, some ⟨b4, 0, none⟩, 9, zer9⟩, ⟨3, 3, some ⟨b5, 0, none⟩, 9, v⟩⟩
/-- the plates that black makes -/
def Blk (x : P4) (v : List Int) : Prop := ∃ b2 b3 b4 b5, x = blkP b2 b3 b4 b5 v
def I9 (v : List Int) : List Value := v.flatMap encI
theorem I9_set (v : List Int) (i : Nat) (n : Int) : I9 (v.set i n) = (I9 v).set i (.int .i64 n) := by
  have : ∀ u : List Int, I9 u = u.map fun n => Value.int .i64 n := fun u => by
    induction u with
    | nil => rfl
    | cons a u ih => show encI a ++ I9 u = _; rw [ih]; rfl
  rw [this, this, List.map_set]
structure BlkSt (w wr : World) (b1 b2 b3 b4 b5 : Nat) (v : List Int) : Prop where
  r0 : Row wr w.heap.size 25 [.int .i64 0, .int .i64 0, .slice none 0 0, .int .i64 0, .int .i64 0, .slice none 0 0, .int .i64 0, .int .i64 0, .slice none 0 0, .int .i64 0, .int .i64 0, .slice none 0 0]
  r1 : Row wr b1 25 (cells4 (blkP b2 b3 b4 b5 zer9))
  r2 : Row wr b2 3 (I9 zer9)
  r3 : Row wr b3 3 (I9 zer9)
  r4 : Row wr b4 3 (I9 zer9)
  r5 : Row wr b5 3 (I9 v)
  h0 : w.heap.size < b1
  h1 : b1 < b2
  h2 : b2 < b3
  h3 : b3 < b4
  h4 : b4 < b5
  hb : Below w.heap.size w wr
theorem BlkSt.drewN {w wr : World} {b1 b2 b3 b4 b5 : Nat} {v : List Int} (h : BlkSt w wr b1 b2 b3 b4 b5 v) : BlkSt w wr.drew b1 b2 b3 b4 b5 v :=
  ⟨h.r0, h.r1, h.r2, h.r3, h.r4, h.r5, h.h0, h.h1, h.h2, h.h3, h.h4, h.hb.drew⟩
theorem BlkSt.set {w wr : World} {b1 b2 b3 b4 b5 : Nat} {v : List Int} (h : BlkSt w wr b1 b2 b3 b4 b5 v) (m : Nat) : BlkSt w (wr.setCell ⟨b5, m, none⟩ (.int .i64 100)) b1 b2 b3 b4 b5 (v.set m 100) := by
  have e := h.r5.cellSet m (.int .i64 100)
  rw [← I9_set] at e
  have := h.h0; have := h.h1; have := h.h2; have := h.h3; have := h.h4
  rw [e]
  exact ⟨h.r0.setOther (by omega) _, h.r1.setOther (by omega) _, h.r2.setOther (by omega) _, h.r3.setOther (by omega) _, h.r4.setOther (by omega) _, h.r5.setSame _, h.h0, h.h1, h.h2, h.h3, h.h4, below_setRow h.hb (by omega) _⟩
theorem BlkSt.fin {w wr : World} {b1 b2 b3 b4 b5 : Nat} {v : List Int} (h : BlkSt w wr b1 b2 b3 b4 b5 v) : Rd4 (wr.setRow w.heap.size (cells4 (blkP b2 b3 b4 b5 v)).toArray) (blkP b2 b3 b4 b5 v) := by
  have := h.h0; have := h.h1; have := h.h2; have := h.h3; have := h.h4
  intro j
  rcases j with _ | _ | _ | j
  · exact (h.r2.setOther (by omega) _).rd encI_len
  · exact (h.r3.setOther (by omega) _).rd encI_len
  · exact (h.r4.setOther (by omega) _).rd encI_len
  · exact (h.r5.setOther (by omega) _).rd encI_len
set_option maxRecDepth 100000 in
set_option maxHeartbeats 4000000 in
theorem black_any (A : Option Addr) (c : Nat) (cs : List Int) (w : World) (hlen : cs.length ≤ 1000) (hc : ∀ j, j < cs.length → 0 ≤ cs[j]! ∧ cs[j]! < 9) (hR : RdI w A cs) :
    Calls Try.prog 25 #[.slice A cs.length c] w (fun e w' => ∃ x, e = .returned (agg4 x) ∧ Blk x (setsL cs) ∧ Rd4 w' x ∧ Below w.heap.size w w') := by
  have HC := Lib.hid hc
  have HR := Lib.hid hR
  clear hc hR
  have hmk := fun (W : World) => run_make_row' (P := Try.prog) 22 3 (.int .i64 0) 8 Try.underlying22 Try.infoI rfl .i64 .i64 9 (by omega) (by omega) W
  simp only [show ((9 : Nat) : Int) = 9 from rfl] at hmk
  go_enter Try.func25, Try.ntmps25
  go_wp2
  go_rounds 5
  clear hmk
  generalize hW : (World.alloc _ _) = W1
  have hst : BlkSt w W1 (w.heap.size + 1) (w.heap.size + 1 + 1) (w.heap.size + 1 + 1 + 1) (w.heap.size + 1 + 1 + 1 + 1) (w.heap.size + 1 + 1 + 1 + 1 + 1) (setsK cs 0) := by
    subst hW
    have hm : madeCells #[Value.int IntKind.i64 0] 9 = (I9 zer9).toArray := by kernel_rfl
    refine ⟨?_, ?_, ?_, ?_, ?_, ?_, by omega, by omega, by omega, by omega, by omega, ?_⟩
    · exact (((((Row.newAt rfl rfl).alloc _).alloc _).alloc _).alloc _).alloc _
    · exact ((((Row.newAt (by simp) rfl).alloc _).alloc _).alloc _).alloc _
    · exact (((Row.newAt (by simp) hm).alloc _).alloc _).alloc _
    · exact ((Row.newAt (by simp) hm).alloc _).alloc _
    · exact (Row.newAt (by simp) hm).alloc _
    · exact Row.newAt (by simp) hm
    · exact (((((bw1 w _).alloc (by simp) _).alloc (by simp; omega) _).alloc (by simp; omega) _).alloc (by simp; omega) _).alloc (by simp; omega) _
  clear hW
  generalize w.heap.size + 1 + 1 + 1 + 1 + 1 = b5 at *
  generalize w.heap.size + 1 + 1 + 1 + 1 = b4 at *
  generalize w.heap.size + 1 + 1 + 1 = b3 at *
  generalize w.heap.size + 1 + 1 = b2 at *
  generalize w.heap.size + 1 = b1 at *
  have hb0 := hst.h0
  have hb1 := hst.h1
  have hb2 := hst.h2
  have hb3 := hst.h3
  have hb4 := hst.h4
  go_loopw [5] (fun i wr => ∃ k : Nat, k ≤ cs.length ∧ i = .int .i64 k ∧ BlkSt w wr b1 b2 b3 b4 b5 (setsK cs k)) (fun i _ => cs.length - (intOf i).toNat)
  case atStart => exact ⟨0, Nat.zero_le _, rfl, hst⟩
  case round =>
    obtain ⟨k, hk, rfl, hr⟩ := hrel
    clear hst
    by_cases hlt : k < cs.length
    · obtain ⟨b, off, rfl, hbl, g1⟩ := RdI.get HR.out hr.hb hlt
      obtain ⟨hy1, hy2⟩ := HC.out k hlt
      have hsk := setsK_succ cs hlt
      obtain ⟨y, hy⟩ : ∃ y, cs[k]! = y := ⟨_, rfl⟩
      rw [hy] at g1 hy1 hy2 hsk
      obtain ⟨m, rfl⟩ : ∃ m : Nat, y = m := ⟨y.toNat, by omega⟩
      have HSK := Lib.hid hsk
      have HSt := Lib.hid hr.drewN
      have q1 : wr.drew.cell? ⟨b1, 11, none⟩ = some (.slice (some ⟨b5, 0, none⟩) 9 9) := hr.r1.cell 11
      have q2 : wr.drew.cell? ⟨b, off + k, none⟩ = some (.int .i64 m) := g1
      obtain ⟨u, q3⟩ : ∃ u, wr.drew.cell? ⟨b5, m, none⟩ = some u := by
        rw [hr.drewN.r5.cell]
        have : m < (I9 (setsK cs k)).length := by unfold I9; rw [flat_len encI_len]; unfold setsK; rw [setsL_len]; omega
        exact ⟨_, List.getElem?_eq_getElem this⟩
      have q4 : wr.drew.frozen? ⟨b5, m, none⟩ = false := hr.r5.frozen m
      clear hy hsk hr g1
      go_wp2_with fail
      refine wp_region_still_tail 8 (by kernel_rfl) (by kernel_rfl) ?_
      simp only [List.take_succ_cons, List.take_zero, List.drop_succ_cons, List.drop_zero]
      change wpStill _ _ wr.drew (fun a' => wpList _ _ _ _ a' wr.drew) _ _
      generalize wr.drew = w2 at *
      repeat still_step
      refine wpStill_nil ?_
      go_wp2
      go_roundw
      case rel => exact ⟨k + 1, by omega, by go_num, by rw [HSK.out]; exact HSt.out.set m⟩
      case measure => simp [intOf]; omega
    · obtain rfl : k = cs.length := by omega
      have e : setsK cs cs.length = setsL cs := by unfold setsK; rw [List.take_length]
      rw [e] at hr
      have hx : Rd4 (wr.setRow w.heap.size (cells4 (blkP b2 b3 b4 b5 (setsL cs))).toArray) (blkP b2 b3 b4 b5 (setsL cs)) := hr.fin
      have HX := Lib.hid hx
      have hr0 := hr.r0
      have hrg : wr.rangeAt b1 0 (cells4 (blkP b2 b3 b4 b5 (setsL cs))) := by
        have h1 : cells4 (blkP b2 b3 b4 b5 (setsL cs)) = cells4 (blkP b2 b3 b4 b5 zer9) := by simp [cells4, blkP, setsL_len, zer9]
        rw [h1]; exact hr.r1.range
      have HB := Lib.hid hr.hb
      clear e hx hr
      obtain ⟨x, hx⟩ : ∃ x, blkP b2 b3 b4 b5 (setsL cs) = x := ⟨_, rfl⟩
      rw [hx] at HX hrg
      have HE := Lib.hid hx
      clear hx
      go_wp2_with first
        | (refine Try.load25 x rfl _ rfl b1 0 rfl hrg ?_)
        | (refine Try.store25 x rfl _ _ rfl w.heap.size rfl rfl hr0 rfl ?_)
      refine bodyPost_ret (v := agg4 x) (Try.res25 _ w.heap.size x _ rfl ((Row.setSame hr0 _).range)) rfl ?_
      exact ⟨x, rfl, ⟨b2, b3, b4, b5, HE.out.symm⟩, HX.out, below_setRow HB.out (Nat.le_refl _) _⟩
end Go.Proofs
