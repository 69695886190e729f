/- find. -/
import Derived.Test.YtnckglojbhlekaaQ14
import Derived.Deep.MidRow
import Derived.Deep.WholeRow
set_option linter.unusedVariables false
set_option linter.unusedSimpArgs false
namespace Go.Proofs
open Go.RowKit Go.Proofs.Mp

def fnd (xs : List Pd) (n : Int) : Option Pd := xs.find? fun x => decide (x.s = n)
theorem fnd_no {xs : List Pd} {n : Int} (h : ∀ j, j < xs.length → xs[j]!.s ≠ n) : fnd xs n = none := by
  unfold fnd
  rw [List.find?_eq_none]
  intro x hx
  obtain ⟨j, hj, rfl⟩ := List.mem_iff_getElem.1 hx
  have := h j hj
  rw [getElem!_pos xs j hj] at this
  simpa using this
theorem fnd_at {xs : List Pd} {n : Int} {k : Nat} (hk : k < xs.length) (he : xs[k]!.s = n) (h : ∀ j, j < k → xs[j]!.s ≠ n) : fnd xs n = some xs[k]! := by
  unfold fnd
  rw [getElem!_pos xs k hk] at he ⊢
  rw [List.find?_eq_some_iff_getElem]
  refine ⟨by simpa using he, k, hk, rfl, fun j hj => ?_⟩
  have := h j hj
  rw [getElem!_pos xs j (by omega)] at this
  simpa using this

theorem Try.size59 : (Try.prog.info? 59).map (·.size) = some 19 := by kernel_rfl
theorem Try.load59 {ops : Array Oper} {rest : List Oper} {o : Oper} {a : Act} {Q : Exit → Act → World → Prop} {w : World} (q : Pd) (hgd : o.guard = none) (x : Operand) (ho : o.op = .load 59 x)
    (b off : Nat) (hx : a.eval x = .pointer (some ⟨b, off, none⟩)) (hc : w.rangeAt b off (encQ q))
    (h : wpList Try.prog ops Q rest (a.put o.dst (aggQ q.s q.p)) w) : wpList Try.prog ops Q (o :: rest) a w :=
  wpList_load_mid hgd 59 x ho b off hx (encQ q) _ hc Try.underlying59 rfl Try.size59 h
theorem Try.store59 {ops : Array Oper} {rest : List Oper} {o : Oper} {a : Act} {Q : Exit → Act → World → Prop} {w : World} (c : Array Value) (q : Pd) (hgd : o.guard = none) (x y : Operand) (ho : o.op = .store 59 x y)
    (hx : a.eval x = .pointer (some ⟨w.heap.size, 0, none⟩)) (hy : a.eval y = aggQ q.s q.p) (hs : c.size = 19)
    (h : wpList Try.prog ops Q rest (a.put o.dst undef) (w.alloc (.cells (encQ q).toArray 59))) : wpList Try.prog ops Q (o :: rest) a (w.alloc (.cells c 59)) :=
  wpList_plain hgd fun _ hK => by
    have hst := run_storeAt_new (P := Try.prog) w 59 c (encQ q).toArray Try.size59 hs (all_oneCell_toArray (encQ_one q))
    have hy' : a.eval y = .agg (encQ q).toArray := hy
    unfold Oper.wp execOp
    simp only [ho, hx, hy', Sem.run_bind, Sem.run_pure, Result.andThen_ok, hst]
    exact hK _ _ h

theorem Try.var59 (w : World) (q : Pd) : (loadVar 59 ⟨w.heap.size, 0, none⟩).run Try.prog (w.alloc (.cells (encQ q).toArray 59)) = .ok (aggQ q.s q.p) (w.alloc (.cells (encQ q).toArray 59)) :=
  run_loadVar_mid (P := Try.prog) (w.alloc (.cells (encQ q).toArray 59)) w.heap.size 0 59 (encQ q) _ (fun j v hv => by
    rw [cell_of_row _ _ _ _ _ (0, 0) (heap_alloc_last w _), Nat.zero_add]
    simpa using hv) Try.underlying59 rfl Try.size59
theorem Try.res37 (w : World) (q : Pd) (b : Bool) (tm : Array Value) (h4 : tm.getD 4 undef = .pointer (some ⟨w.heap.size, 0, none⟩)) (h5 : tm.getD 5 undef = .bool b) :
    (results Try.f37 tm).run Try.prog (w.alloc (.cells (encQ q).toArray 59)) = .ok (.tuple #[aggQ q.s q.p, .bool b]) (w.alloc (.cells (encQ q).toArray 59)) := by
  have hl := Try.var59 w q
  unfold results
  rw [Try.results37]
  simp only [Array.getD_eq_getD_getElem?] at h4 h5
  simp [h4, h5, hl, asAddr, Sem.run_bind, Sem.run_pure]

set_option maxRecDepth 100000 in
set_option maxHeartbeats 2000000 in
theorem ref_find (A : Option Addr) (c : Nat) (xs : List Pd) (n : Int) (w : World) (hmax : xs.length ≤ 1000000) (hR : Rd 19 encQ w A xs) :
    Calls Try.prog 37 #[.slice A xs.length c, .int .i64 n] w (fun e w' => e = .returned (.tuple #[aggQ ((fnd xs n).getD z0).s ((fnd xs n).getD z0).p, .bool (fnd xs n).isSome]) ∧ Below w.heap.size w w') := by
  have k0 := bw1 w (.cells #[.int .i64 0, .int .i64 0, .slice none 0 0, .slice none 0 0, .slice none 0 0, .slice none 0 0, .int .i64 0, .int .i64 0, .slice none 0 0, .int .i64 0, .int .i64 0, .slice none 0 0, .int .i64 0, .int .i64 0, .slice none 0 0, .int .i64 0, .int .i64 0, .slice none 0 0, .int .u64 0] 59)
  have HR := Lib.hid hR
  clear hR
  go_enter Try.func37, Try.ntmps37
  go_wp2
  go_loop [6] (fun i => ∃ k : Nat, k ≤ xs.length ∧ i = .int .i64 k ∧ Hid (∀ j, j < k → xs[j]!.s ≠ n)) (fun i => xs.length - (intOf i).toNat)
  case atStart => exact ⟨0, by omega, rfl, Lib.hid (fun j hj => by omega)⟩
  case round =>
    obtain ⟨k, hk, rfl, hno⟩ := hrel
    by_cases hlt : k < xs.length
    · obtain ⟨q, hq⟩ : ∃ q, xs[k]! = q := ⟨_, rfl⟩
      have HQ := Lib.hid hq
      obtain ⟨b, off, rfl, hb, hc⟩ : ∃ b off, A = some ⟨b, off, none⟩ ∧ b < w.heap.size ∧ ∀ i u, (encQ q)[i]? = some u → (w.alloc (.cells #[.int .i64 0, .int .i64 0, .slice none 0 0, .slice none 0 0, .slice none 0 0, .slice none 0 0, .int .i64 0, .int .i64 0, .slice none 0 0, .int .i64 0, .int .i64 0, .slice none 0 0, .int .i64 0, .int .i64 0, .slice none 0 0, .int .i64 0, .int .i64 0, .slice none 0 0, .int .u64 0] 59)).cell? ⟨b, off + k * 19 + i, none⟩ = some u := by
        obtain ⟨b, off, h1, h2, h3⟩ := Rd.get HR.out k0 hlt
        rw [← hq]
        exact ⟨b, off, h1, h2, h3 k hlt⟩
      clear hq
      have g0 : (w.alloc (.cells #[.int .i64 0, .int .i64 0, .slice none 0 0, .slice none 0 0, .slice none 0 0, .slice none 0 0, .int .i64 0, .int .i64 0, .slice none 0 0, .int .i64 0, .int .i64 0, .slice none 0 0, .int .i64 0, .int .i64 0, .slice none 0 0, .int .i64 0, .int .i64 0, .slice none 0 0, .int .u64 0] 59)).cell? ⟨b, off + k * 19, none⟩ = some (.int .i64 q.s) := hc 0 _ rfl
      by_cases he : q.s = n
      · have hd : (q.s == n) = true := by simp [he]
        have HE := Lib.hid he
        have HF : Hid (fnd xs n = some q) := Lib.hid (by rw [← HQ.out]; exact fnd_at hlt (by rw [HQ.out]; exact HE.out) hno.out)
        clear he
        as_aux_lemma =>
          go_wp2_with first
            | (refine Try.load59 q rfl _ rfl b (off + k * 19) rfl hc ?_)
            | (refine Try.store59 _ q rfl _ _ rfl rfl rfl rfl ?_)
          refine bodyPost_ret (v := .tuple #[aggQ q.s q.p, .bool true]) (Try.res37 w q true _ rfl rfl) rfl ?_
          exact ⟨by rw [HF.out]; rfl, bw1 _ _⟩
      · have hd : (q.s == n) = false := by simp [he]
        have HE := Lib.hid he
        clear he
        go_wp2
        go_round
        case rel => exact ⟨k + 1, by omega, by go_num, Lib.hid (fun j hj => by
          rcases Nat.lt_succ_iff_lt_or_eq.1 hj with h2 | rfl
          · exact hno.out j h2
          · rw [HQ.out]; exact HE.out)⟩
        case measure => simp [intOf]; omega
    · obtain rfl : k = xs.length := by omega
      have HF : Hid (fnd xs n = none) := Lib.hid (fnd_no hno.out)
      as_aux_lemma =>
        go_wp2_with (refine Try.store59 _ z0 rfl _ _ rfl rfl rfl rfl ?_)
        refine bodyPost_ret (v := .tuple #[aggQ z0.s z0.p, .bool false]) (Try.res37 w z0 false _ rfl rfl) rfl ?_
        exact ⟨by rw [HF.out]; rfl, bw1 _ _⟩
end Go.Proofs
