/- Lemmas and walks; no statement of a law is proved here. -/
import Derived.Test.YtaaejdhdkipdlaaProg
import Derived.Test.YtaaejdhdkipdlaaXBase
import Derived.Test.YtaaejdhdkipdlaaXShelf
import Derived.BigQuiet
import Derived.Deep.QuietTactic
import Derived.Lib.RowBridge
set_option linter.unusedVariables false
set_option linter.unusedSimpArgs false
namespace Go.Proofs
open Go.RowKit Go.Proofs.Mp

theorem call_b {f : FuncId} {args : Array Value} {w : World} {x y : Bool} (h : Calls Try.prog f args w (RetV w (.bool x))) (e : x = y) : Calls Try.prog f args w (RetV w (.bool y)) := e ▸ h

/-- lists that agree so far -/
def agree (xs ys : List Int) (k : Nat) : Prop := ∀ j, j < k → xs[j]! = ys[j]!
theorem agree_succ {xs ys : List Int} {k : Nat} (h : agree xs ys k) (hk : xs[k]! = ys[k]!) : agree xs ys (k + 1) := by
  intro j hj
  rcases Nat.lt_succ_iff_lt_or_eq.1 hj with h1 | rfl
  · exact h j h1
  · exact hk
theorem agree_all {xs ys : List Int} (hl : xs.length = ys.length) (h : agree xs ys xs.length) : xs = ys := by
  apply List.ext_getElem hl
  intro i h1 h2
  have := h i h1
  simpa [h1, h2] using this

set_option maxHeartbeats 400000 in
theorem ref_same (A B : Option Addr) (c d : Nat) (xs ys : List Int) (w : World) (h1 : xs.length ≤ 1000000000000) (h2 : ys.length ≤ 1000000000000) (hA : RdI w A xs) (hB : RdI w B ys) :
    Calls Try.prog 18 #[.slice A xs.length c, .slice B ys.length d] w (RetV w (.bool (decide (xs = ys)))) := by
  by_cases hl : xs.length = ys.length
  · have hlb : ((xs.length : Int) != (ys.length : Int)) = false := by simp [hl]
    have HL := Lib.hid hl
    clear hl
    go_enter Try.func18, Try.ntmps18
    go_wp2
    go_loopw [5] (fun i wr => ∃ k : Nat, k ≤ xs.length ∧ i = .int .i64 k ∧ agree xs ys k ∧ Below w.heap.size w wr) (fun i _ => xs.length - (intOf i).toNat)
    case atStart => exact ⟨0, by omega, rfl, fun j hj => by omega, Below.refl _ _⟩
    case round =>
      obtain ⟨k, hk, rfl, hag, hbw⟩ := hrel
      by_cases hlt : k < xs.length
      · have hly : k < ys.length := by have := HL.out; omega
        obtain ⟨b, off, rfl, hb, g1⟩ := RdI.get hA hbw hlt
        obtain ⟨b', off', rfl, hb', g2⟩ := RdI.get hB hbw hly
        obtain ⟨x, hx⟩ : ∃ x, xs[k]! = x := ⟨_, rfl⟩
        obtain ⟨y, hy⟩ : ∃ y, ys[k]! = y := ⟨_, rfl⟩
        rw [hx] at g1
        rw [hy] at g2
        have HX := Lib.hid hx
        have HY := Lib.hid hy
        clear hx hy
        by_cases he : x = y
        · have hN : (x != y) = false := by simp [he]
          have HE := Lib.hid he
          clear he
          go_wp2
          go_quiet (fail)
          go_wp2
          go_roundw
          case rel => exact ⟨k + 1, by omega, by go_num, agree_succ hag (by rw [HX.out, HY.out, HE.out]), hbw.trans (below_drewN (Below.refl _ _) _)⟩
          case measure => simp [intOf]; omega
        · have hN : (x != y) = true := by simp [he]
          have HE := Lib.hid he
          clear he
          go_wp2
          go_quiet (fail)
          go_wp2
          go_ret
          exact RetV.bool (by symm; rw [decide_eq_false_iff_not]; intro e; exact HE.out (by rw [← HX.out, ← HY.out, e])) (hbw.trans (below_drewN (Below.refl _ _) _))
      · go_wp2
        go_ret
        exact RetV.bool (by symm; rw [decide_eq_true_iff]; exact agree_all HL.out (by rwa [show xs.length = k by omega])) hbw
  · have hlb : ((xs.length : Int) != (ys.length : Int)) = true := by simp; omega
    have hne : xs ≠ ys := fun e => hl (by rw [e])
    clear hl
    go_enter Try.func18, Try.ntmps18
    go_wp2
    go_ret
    exact RetV.bool (by simp [hne]) (Below.refl _ _)

def noneTo (zs : List Int) (x : Int) (k : Nat) : Prop := ∀ j, j < k → zs[j]! ≠ x
theorem has_yes {zs : List Int} {x : Int} {k : Nat} (hk : k < zs.length) (h : zs[k]! = x) : decide (x ∈ zs) = true := by
  rw [decide_eq_true_iff, ← h]
  simp [hk]
theorem has_no {zs : List Int} {x : Int} (h : noneTo zs x zs.length) : decide (x ∈ zs) = false := by
  rw [decide_eq_false_iff_not]
  intro hc
  obtain ⟨i, hi, rfl⟩ := List.getElem_of_mem hc
  have := h i hi
  simp [hi] at this
theorem noneTo_succ {zs : List Int} {x : Int} {k : Nat} (h : noneTo zs x k) (hk : zs[k]! ≠ x) : noneTo zs x (k + 1) := by
  intro j hj
  rcases Nat.lt_succ_iff_lt_or_eq.1 hj with h1 | rfl
  · exact h j h1
  · exact hk

set_option maxHeartbeats 400000 in
theorem ref_has (A : Option Addr) (c : Nat) (x : Int) (zs : List Int) (w : World) (hmax : zs.length ≤ 1000000000000) (hR : RdI w A zs) :
    Calls Try.prog 25 #[.slice A zs.length c, .int .i64 x] w (RetV w (.bool (decide (x ∈ zs)))) := by
  go_enter Try.func25, Try.ntmps25
  go_wp2
  go_loop [5] (fun i => ∃ k : Nat, k ≤ zs.length ∧ i = .int .i64 k ∧ noneTo zs x k) (fun i => zs.length - (intOf i).toNat)
  case atStart => exact ⟨0, by omega, rfl, fun j hj => by omega⟩
  case round =>
    obtain ⟨k, hk, rfl, hno⟩ := hrel
    by_cases hlt : k < zs.length
    · obtain ⟨b, off, rfl, hb, g1⟩ := RdI.get hR (Below.refl _ _) hlt
      obtain ⟨y, hy⟩ : ∃ y, zs[k]! = y := ⟨_, rfl⟩
      rw [hy] at g1
      have HY := Lib.hid hy
      clear hy
      by_cases he : y = x
      · have hE : (y == x) = true := by simp [he]
        have HE := Lib.hid he
        clear he
        go_wp2
        go_ret
        exact RetV.bool (has_yes hlt (by rw [HY.out, HE.out])).symm (Below.refl _ _)
      · have hE : (y == x) = false := by simp [he]
        have HE := Lib.hid he
        clear he
        go_wp2
        go_roundw
        case rel => exact ⟨k + 1, by omega, by go_num, noneTo_succ hno (by rw [HY.out]; exact HE.out)⟩
        case measure => simp [intOf]; omega
    · go_wp2
      go_ret
      exact RetV.bool (has_no (by rwa [show zs.length = k by omega])).symm (Below.refl _ _)

def ascAt (zs : List Int) (k : Nat) : Bool := decide (zs[k-1]! < zs[k]!)
/-- ascending from place 1 to place k -/
def ascTo (zs : List Int) (k : Nat) : Prop := ∀ j, 1 ≤ j → j < k → zs[j-1]! < zs[j]!
def ascB (zs : List Int) : Bool := (List.range zs.length).all fun j => decide (j = 0) || decide (zs[j-1]! < zs[j]!)
theorem ascTo_succ {zs : List Int} {k : Nat} (h : ascTo zs k) (hk : zs[k-1]! < zs[k]!) : ascTo zs (k + 1) := by
  intro j h1 hj
  rcases Nat.lt_succ_iff_lt_or_eq.1 hj with h2 | rfl
  · exact h j h1 h2
  · exact hk
theorem asc_yes {zs : List Int} {k : Nat} (hk : zs.length ≤ k) (h : ascTo zs k) : ascB zs = true := by
  unfold ascB
  rw [List.all_eq_true]
  intro j hj
  rw [List.mem_range] at hj
  rcases j with _ | j
  · rfl
  · simp only [Bool.or_eq_true, decide_eq_true_eq]; right; exact h (j + 1) (by omega) (by omega)
theorem asc_no {zs : List Int} {k : Nat} (h0 : 1 ≤ k) (hk : k < zs.length) (h : ¬ zs[k-1]! < zs[k]!) : ascB zs = false := by
  unfold ascB
  rw [List.all_eq_false]
  refine ⟨k, List.mem_range.2 hk, ?_⟩
  simp only [Bool.or_eq_true, decide_eq_true_eq]
  omega
end Go.Proofs
set_option linter.unusedVariables false
set_option linter.unusedSimpArgs false
namespace Go.Proofs
open Go.RowKit Go.Proofs.Mp

set_option maxHeartbeats 400000 in
theorem idset_valid (A : Option Addr) (c : Nat) (zs : List Int) (w : World) (hmax : zs.length ≤ 1000000000000) (hR : RdI w A zs) :
    Calls Try.prog 27 #[.slice A zs.length c] w (RetV w (.bool (ascB zs))) := by
  go_enter Try.func27, Try.ntmps27
  go_wp2
  go_loopw [3] (fun i wr => ∃ k : Nat, 1 ≤ k ∧ k ≤ 1000000000001 ∧ i = .int .i64 k ∧ ascTo zs k ∧ Below w.heap.size w wr) (fun i _ => zs.length - (intOf i).toNat)
  case atStart => exact ⟨1, by omega, by omega, rfl, fun j h1 hj => by omega, Below.refl _ _⟩
  case round =>
    obtain ⟨k, hk1, hk2, rfl, has, hbw⟩ := hrel
    by_cases hlt : k < zs.length
    · obtain ⟨b, off, rfl, hb, hc⟩ := RdI.getAll hR hbw hlt
      have g1 := hc k hlt
      have g0 := hc (k - 1) (by omega)
      obtain ⟨x, hx⟩ : ∃ x, zs[k-1]! = x := ⟨_, rfl⟩
      obtain ⟨y, hy⟩ : ∃ y, zs[k]! = y := ⟨_, rfl⟩
      rw [hx] at g0
      rw [hy] at g1
      have HX := Lib.hid hx
      have HY := Lib.hid hy
      have e1 : IntKind.i64.wrap ((k : Int) - 1) = ((k - 1 : Nat) : Int) := by rw [IntWalk.i64_in _ (by omega)]; omega
      clear hx hy hc
      by_cases he : x < y
      · have hN : decide (x ≥ y) = false := decide_eq_false (by omega)
        have HE := Lib.hid he
        clear he
        go_wp2
        go_quiet (fail)
        go_wp2
        go_roundw
        case rel => exact ⟨k + 1, by omega, by omega, by go_num, ascTo_succ has (by rw [HX.out, HY.out]; exact HE.out), hbw.trans (below_drewN (Below.refl _ _) _)⟩
        case measure => simp [intOf]; omega
      · have hN : decide (x ≥ y) = true := decide_eq_true (by omega)
        have HE := Lib.hid he
        clear he
        go_wp2
        go_quiet (fail)
        go_wp2
        go_ret
        exact RetV.bool (asc_no hk1 hlt (by rw [HX.out, HY.out]; have := HE.out; omega)).symm (hbw.trans (below_drewN (Below.refl _ _) _))
    · go_wp2
      go_ret
      exact RetV.bool (asc_yes (by omega) has).symm hbw
end Go.Proofs
/- Words for memory, continued: a whole slice appended to a row of the call's own. No program is named here. -/
namespace Go.Proofs.Mp
open Go.RowKit
section
variable {P : Program} {w : World}

theorem run_append_zero (t ty e : TypeId) (i : TypeInfo) (ht : P.underlying t = some (.slice e)) (hi : P.info? e = some i) (B A : Option Addr) (n m c : Nat) (hle : n ≤ m) :
    (Builtin.append_ #[t, t] ty #[.slice B n m, .slice A 0 c]).run P w = .ok (.slice B n m) w := by
  have h0 : (Builtin.firstCells i.size 0 (.slice A 0 c)).run P w = .ok #[] w := by
    cases A with
    | none => exact run_firstCells_none (P := P) w i.size 0 0 c
    | some a => exact run_firstCells_some (P := P) w i.size 0 a 0 c [] (by simp) (fun j v h => by simp at h)
  cases B <;> simp [Builtin.append_, run_underlying ht, sizeOf, typeInfo, hi, Builtin.lenOf, h0, hle, storeCells]

/-- append(out, x..): the elements that the slice x reads as. -/
theorem Own.wpAll {α : Type} [Inhabited α] {e : TypeId} {k : Nat} {enc : α → List Value} {base : Nat} {v : Value} {xs ys : List α} {o : Oper} {a : Act} {K : Act → World → Prop} {Q : Exit → Act → World → Prop} (t : TypeId) (i : TypeInfo) (z : Value) (bytes : Nat)
    (ht : P.underlying t = some (.slice e)) (hi : P.info? e = some i) (hz : i.zero = some z)
    (hsize : i.size = k) (hby : i.bytes = bytes) (hzs : z.cells.size = k) (hsz : 0 < k) (hbpos : 0 < bytes)
    (hk : ∀ x, (enc x).length = k) (h1 : ∀ x, ∀ u ∈ enc x, u.oneCell' = true) (s x : Operand)
    (ho : o.op = .call { callee := .builtin .append, args := #[s, x], argTypes := #[t, t] })
    (hown : Own e k enc w base v xs) (hs : a.eval s = v) {A : Option Addr} {c : Nat} (hR : Rd k enc w A ys) (hx : a.eval x = .slice A ys.length c)
    (hbytes : (xs.length + ys.length) * bytes ≤ 140737488355328) (hbase : base ≤ w.heap.size)
    (h : ∀ v' w', Own e k enc w' base v' (xs ++ ys) → Below base w w' → K (a.put o.dst v') w') : o.wp P a w K Q := by
  have hle : xs.length + ys.length ≤ (xs.length + ys.length) * bytes := Nat.le_mul_of_pos_right _ hbpos
  have fin : ∀ v' w', w'.ownsRow base e k v' (xs.length + ys.length) (xs.flatMap enc ++ ys.flatMap enc) → w.grownBy w' v.ownBlock → K (a.put o.dst v') w' := by
    intro v' w' ho' hg
    refine h v' w' ?_ ?_
    · unfold Own
      simpa using ho'
    · exact (Below.refl _ _).grown hg hbase (fun j hj => (World.ownsRow.lt hown j hj).1)
  by_cases hn : ys = []
  · subst hn
    simp only [List.length_nil] at hx
    obtain ⟨B, m, rfl, hm⟩ : ∃ B m, v = .slice B xs.length m ∧ xs.length ≤ m := by
      rcases hown.2 with ⟨rfl, h0⟩ | ⟨g, cap, cur, rfl, _, _, hnc, _⟩
      · exact ⟨none, 0, by rw [h0], by omega⟩
      · exact ⟨_, cap, rfl, hnc⟩
    have hr := run_append_zero (P := P) (w := w) t o.type e i ht hi B A xs.length m c hm
    unfold Oper.wp execOp
    simp only [ho, resolve, invoke, builtin, Sem.run_bind, Sem.run_pure, Result.andThen_ok, List.map_toArray, List.map_cons, List.map_nil, hs, hx, hr]
    exact h _ w (by simpa using hown) (Below.refl _ _)
  · obtain ⟨ad, rfl, hc⟩ := Rd.flat hk hsz hR hn
    refine wp_append_own w s x t ho base e i z k bytes ht hi hz hsize hby hzs hsz v xs.length (xs.flatMap enc) hs hown ad ys.length c (ys.flatMap enc) hx (flat_len hk ys) hc ?_ (by unfold maxLen; omega) hbytes hbase ?_
    · intro u hu
      obtain ⟨y, _, hy⟩ := List.mem_flatMap.1 hu
      exact h1 y u hy
    · intro v' w' h2 h3 _
      exact fin v' w' h2 h3
end
end Go.Proofs.Mp
set_option linter.unusedVariables false
set_option linter.unusedSimpArgs false
namespace Go.Proofs
open Go.RowKit Go.Proofs.Mp

theorem Mp.info_parts {P : Program} {t : TypeId} {z : Value} {s b : Nat} (h : (P.info? t).map (fun i => (i.zero, i.size, i.bytes)) = some (some z, s, b)) : ∃ i, P.info? t = some i ∧ i.zero = some z ∧ i.size = s ∧ i.bytes = b := by
  cases hi : P.info? t with
  | none => rw [hi] at h; simp at h
  | some i =>
    rw [hi] at h
    simp at h
    exact ⟨i, rfl, h.1, h.2.1, h.2.2⟩
theorem Try.infoI : (Try.prog.info? 3).map (fun i => (i.zero, i.size, i.bytes)) = some (some (.int .i64 0), 1, 8) := by kernel_rfl

/-- slices.Grow of the nil slice: a row of the call's own with no element yet -/
theorem grow_nil (n : Nat) (w : World) (hn : n ≤ 1000000000000) :
    Calls Try.prog 89 #[.slice none 0 0, .int .i64 n] w (fun e w' => ∃ v, e = .returned v ∧ OwnI 3 w' w.heap.size v [] ∧ Below w.heap.size w w') := by
  by_cases h0 : n = 0
  · subst h0
    exact (Any8.slices_Grow_room Try.growI none 0 0 0 w (by omega) (by omega) (by omega) (by omega)).mono fun e w' ⟨he, hw⟩ => by
      subst hw
      exact ⟨_, he, Own.nil _ _, Below.refl _ _⟩
  · obtain ⟨i0, hi, hz, hs, hb⟩ := Mp.info_parts Try.infoI
    refine (Any8.slices_Grow_grow Try.growI i0 _ hi hz (by omega) none 0 0 n [] w (by omega) (by omega) (by rw [hb]; omega) (by omega) (by simp) (by simp) (by simp)).mono fun e w' ⟨he, hw⟩ => ?_
    subst hw
    have hge := grownCap_ge w (0 + n) 0 3
    have hle := grownCap_le_maxLen w (0 + n) 0 3 (by unfold maxLen; omega)
    refine ⟨_, he, ⟨by simp, .inr ⟨w.heap.size, _, _, rfl, Nat.le_refl _, heap_alloc_new _ _, Nat.zero_le _, hle, ?_, by simp⟩⟩, ?_⟩
    · show (_ : Array Value).size = _
      simp only [Array.size_append, size_zeroCells]
      have e3 : (grownCap w (0 + n) 0 (Try.growI_ren.t 25)) = grownCap w (0 + n) 0 3 := rfl
      rw [e3]
      have e1 : (Value.int IntKind.i64 0).cells.size = 1 := rfl
      rw [e1]
      have hg2 : 0 + n ≤ grownCap w (0 + n) 0 3 := grownCap_ge w (0 + n) 0 3
      generalize grownCap w (0 + n) 0 3 = G at *
      simp
      omega
    · exact ((Below.refl _ _).drew).alloc (Nat.le_refl _) _
end Go.Proofs
set_option linter.unusedVariables false
set_option linter.unusedSimpArgs false
namespace Go.Proofs
open Go.RowKit Go.Proofs.Mp

theorem Try.appAll {w : World} {base : Nat} {v : Value} {xs ys : List Int} {ops : Array Oper} {rest : List Oper} {o : Oper} {a : Act} {Q : Exit → Act → World → Prop}
    (hown : OwnI 3 w base v xs) {A : Option Addr} {c : Nat} (hR : RdI w A ys) (hgd : o.guard = none) (s x : Operand)
    (ho : o.op = .call { callee := .builtin .append, args := #[s, x], argTypes := #[23, 23] }) (hs : a.eval s = v) (hx : a.eval x = .slice A ys.length c)
    (hN : xs.length + ys.length ≤ 1000000000000) (hbase : base ≤ w.heap.size)
    (h : ∀ v' w', OwnI 3 w' base v' (xs ++ ys) → Below base w w' → wpList Try.prog ops Q rest (a.put o.dst v') w') :
    wpList Try.prog ops Q (o :: rest) a w := by
  obtain ⟨i0, hi, hz0, hz1, hz2⟩ := Mp.info_parts Try.infoI
  exact wpList_plain hgd fun _ hK => Own.wpAll 23 i0 (.int .i64 0) 8 Try.underlying23 hi hz0 hz1 hz2 rfl (by decide) (by decide) encI_len encI_one s x ho hown hs hR hx (by omega) hbase fun v' w' h2 h3 => hK _ _ (h v' w' h2 h3)

/-- a slice of integers as an element: its address, its capacity, the integers that it reads as -/
def encSl (s : Option Addr × Nat × List Int) : List Value := [.slice s.1 s.2.2.length s.2.1]
abbrev RdS (w : World) (A : Option Addr) (ls : List (Option Addr × Nat × List Int)) : Prop := Rd 1 encSl w A ls
def sumL (ls : List (Option Addr × Nat × List Int)) : Nat := (ls.map fun s => s.2.2.length).sum
def catL (ls : List (Option Addr × Nat × List Int)) : List Int := ls.flatMap fun s => s.2.2
theorem RdS.get {w wr : World} {A : Option Addr} {ls : List (Option Addr × Nat × List Int)} (h : RdS w A ls) (hb : Below w.heap.size w wr) {j : Nat} (hj : j < ls.length) :
    ∃ b off, A = some ⟨b, off, none⟩ ∧ b < w.heap.size ∧ wr.cell? ⟨b, off + j, none⟩ = some (.slice ls[j]!.1 ls[j]!.2.2.length ls[j]!.2.1) := by
  obtain ⟨b, off, rfl, hlt, hc⟩ := Rd.get h hb hj
  exact ⟨b, off, rfl, hlt, by simpa using hc j hj 0 _ rfl⟩
theorem sum_take {ls : List (Option Addr × Nat × List Int)} {k : Nat} (h : k < ls.length) : sumL (ls.take (k + 1)) = sumL (ls.take k) + ls[k]!.2.2.length := by
  unfold sumL
  rw [List.take_succ_eq_append_getElem h, List.map_append, List.sum_append]
  congr 1
  simp [h]
theorem cat_take {ls : List (Option Addr × Nat × List Int)} {k : Nat} (h : k < ls.length) : catL (ls.take (k + 1)) = catL (ls.take k) ++ ls[k]!.2.2 := by
  unfold catL
  rw [List.take_succ_eq_append_getElem h, List.flatMap_append]
  congr 1
  simp [h]
theorem sum_take_le (ls : List (Option Addr × Nat × List Int)) (k : Nat) : sumL (ls.take k) ≤ sumL ls := by
  unfold sumL
  conv => rhs; rw [← List.take_append_drop k ls]
  rw [List.map_append, List.sum_append]
  omega
theorem cat_len (ls : List (Option Addr × Nat × List Int)) : (catL ls).length = sumL ls := by
  unfold catL sumL
  rw [List.length_flatMap]

set_option maxHeartbeats 1000000 in
theorem concat_any (A : Option Addr) (c : Nat) (ls : List (Option Addr × Nat × List Int)) (w : World) (h1 : ls.length ≤ 1000000) (h2 : sumL ls ≤ 1000000000000) (hA : RdS w A ls) (hS : ∀ s ∈ ls, RdI w s.1 s.2.2) :
    Calls Try.prog 74 #[.slice A ls.length c] w (fun e w' => ∃ v, e = .returned v ∧ OwnI 3 w' w.heap.size v (catL ls) ∧ Below w.heap.size w w') := by
  go_enter Try.func74, Try.ntmps74
  go_wp2_with fail
  go_loopw [3, 11] (fun n i wr => ∃ k : Nat, k ≤ ls.length ∧ i = .int .i64 k ∧ n = .int .i64 (sumL (ls.take k) : Nat) ∧ Below w.heap.size w wr) (fun _ i _ => ls.length - (intOf i).toNat)
  case atStart => exact ⟨0, by omega, rfl, rfl, Below.refl _ _⟩
  case round =>
    obtain ⟨k, hk, rfl, rfl, hbw⟩ := hrel
    by_cases hlt : k < ls.length
    · obtain ⟨b, off, rfl, hb, g1⟩ := RdS.get hA hbw hlt
      have HX := Lib.hid (sum_take hlt)
      have hle := sum_take_le ls (k + 1)
      rw [sum_take hlt] at hle
      generalize ls[k]! = s at *
      generalize sumL (ls.take k) = n at *
      have e1 : IntKind.i64.wrap ((n : Int) + (s.2.2.length : Int)) = ((n + s.2.2.length : Nat) : Int) := by rw [IntWalk.i64_in _ (by omega)]; omega
      have e2 : ¬ (((n + s.2.2.length : Nat) : Int) < 0) := by omega
      go_wp2
      go_roundw
      case rel => exact ⟨k + 1, by omega, by go_num, by rw [HX.out]; exact congrArg (Value.int .i64) (by omega), hbw⟩
      case measure => simp [intOf]; omega
    · obtain rfl : k = ls.length := by omega
      simp only [List.take_length]
      have hs := hbw.size
      go_wp2_with fail
      refine (grow_nil (sumL ls) wr h2).mono ?_
      rintro e w1 ⟨v1, rfl, hown1, hb1⟩
      have k1 := hbw.trans (hb1.mono hs)
      have hown0 := hown1.mono hs
      go_wp2_with fail
      go_loopw [6, 27] (fun v i wr => ∃ k : Nat, k ≤ ls.length ∧ i = .int .i64 k ∧ OwnI 3 wr w.heap.size v (catL (ls.take k)) ∧ Below w.heap.size w wr) (fun _ i _ => ls.length - (intOf i).toNat)
      case atStart => exact ⟨0, by omega, rfl, hown0, k1⟩
      case round =>
        obtain ⟨k, hk, rfl, hown, hbw2⟩ := hrel
        by_cases hlt : k < ls.length
        · obtain ⟨b, off, rfl, hb, g1⟩ := RdS.get hA hbw2 hlt
          have HX := Lib.hid (cat_take hlt)
          have hle := sum_take_le ls (k + 1)
          rw [← cat_len, cat_take hlt, List.length_append] at hle
          have hRs := (hS ls[k]! (by simp [hlt])).below hbw2
          generalize ls[k]! = s at *
          generalize catL (ls.take k) = xs at *
          go_wp2_with (at_builtin; refine Try.appAll hown hRs rfl _ _ rfl rfl rfl (by omega) hbw2.size ?_; clear hown hRs; intro v2 w2 hown2 hb2)
          go_roundw
          case rel => exact ⟨k + 1, by omega, by go_num, by rw [HX.out]; exact hown2, hbw2.trans hb2⟩
          case measure => simp [intOf]; omega
        · obtain rfl : k = ls.length := by omega
          simp only [List.take_length] at hown
          go_wp2
          go_ret
          exact ⟨_, rfl, hown, hbw2⟩
end Go.Proofs
set_option linter.unusedVariables false
set_option linter.unusedSimpArgs false
namespace Go.Proofs
open Go.RowKit Go.Proofs.Mp

/-- a row of the call's own that the sort may turn -/
def HeldI (w : World) (base : Nat) (v : Value) (xs : List Int) : Prop :=
  (∃ A c, v = .slice A 0 c ∧ xs = []) ∨ ∃ g c, v = .slice (some ⟨g, 0, none⟩) xs.length c ∧ base ≤ g ∧ g < w.heap.size ∧ xs.length ≤ c ∧ Go.Sort.Holds (Value.int .i64) w g 0 xs.toArray

theorem own_held {w : World} {base : Nat} {v : Value} {xs : List Int} (h : OwnI 3 w base v xs) : HeldI w base v xs := by
  have h0 := h
  rcases h.2 with ⟨rfl, hn⟩ | ⟨g, cap, cur, rfl, hb, hh, hnc, hm, hcs, htake⟩
  · exact .inl ⟨none, 0, rfl, List.eq_nil_of_length_eq_zero hn⟩
  · refine .inr ⟨g, cap, rfl, hb, (Array.getElem?_eq_some_iff.1 hh).1, hnc, fun j hj => ?_⟩
    have hj' : j < xs.length := by simpa using hj
    refine ⟨?_, frozen_of_row w g _ cur 3 hh⟩
    have hR : RdI w (some ⟨g, 0, none⟩) xs := Own.rd encI_len h0
    obtain ⟨b, off, he, _, hc⟩ := RdI.getAll hR (Below.refl _ _) hj'
    injection he with he
    injection he with h1 h2 h3
    subst h1; subst h2
    rw [hc j hj']
    simp

theorem held_rd {w : World} {base n c : Nat} {A : Option Addr} {xs : List Int} (h : HeldI w base (.slice A n c) xs) : n = xs.length ∧ RdI w A xs := by
  rcases h with ⟨A', c', he, rfl⟩ | ⟨g, c', he, _, hg, _, hH⟩
  · injection he with h1 h2 h3
    exact ⟨h2, Rd.nil _⟩
  · injection he with h1 h2 h3
    subst h1
    refine ⟨h2, .inr ⟨g, 0, rfl, hg, fun j hj i u hu => ?_⟩⟩
    have h4 := (hH j (by simpa using hj)).1
    match i with
    | 0 =>
      simp [Mp.encI] at hu
      subst hu
      simpa using h4
    | i + 1 => simp [Mp.encI] at hu

theorem putRow_size {w : World} {g off q : Nat} {d : Array Int} : (Go.Sort.putRow (Value.int .i64) (Go.Sort.ahead w q) g off d).heap.size = w.heap.size := by
  simp [Go.Sort.putRow, Go.Sort.mapBlock, Go.Sort.ahead]

theorem below_putRow {w : World} {g off q : Nat} {d : Array Int} (h : g < w.heap.size) : Below g w (Go.Sort.putRow (Value.int .i64) (Go.Sort.ahead w q) g off d) := by
  refine ⟨rfl, rfl, rfl, by rw [putRow_size]; exact Nat.le_refl _, fun k hk => ?_⟩
  simp only [Go.Sort.putRow, Go.Sort.mapBlock, Array.getElem?_modify]
  rw [if_neg (by omega)]
  rfl

theorem sort_held {w : World} {base : Nat} {v : Value} {xs : List Int} (h : HeldI w base v xs) (hs : xs.length ≤ 1000000000000) :
    Calls Try.prog 37 #[v] w fun e w' => e = .returned (.tuple #[]) ∧ HeldI w' base v (xs.mergeSort fun x y => decide (x ≤ y)) ∧ (base ≤ w.heap.size → Below base w w') := by
  rcases h with ⟨A, c, rfl, rfl⟩ | ⟨g, c, rfl, hb, hg, hc, hH⟩
  · exact (Try.slices_Sort_int_none A c w).mono fun e w' ⟨he, hw⟩ => by
      subst hw
      exact ⟨he, .inl ⟨A, c, rfl, by simp⟩, fun _ => Below.refl _ _⟩
  · refine (Try.slices_Sort_int g 0 c xs w hH hg (by omega)).mono fun e w' ⟨he, n, os, hw⟩ => ?_
    subst hw
    have hp : (Go.Sort.putRow (Value.int .i64) (Go.Sort.ahead w n) g 0 (xs.mergeSort fun x y => decide (x ≤ y)).toArray).heap.size = w.heap.size := putRow_size
    have hP := Go.Sort.holds_putRow (Value.int .i64) (Go.Sort.ahead w n) g 0 xs.toArray (xs.mergeSort fun x y => decide (x ≤ y)).toArray (Go.Sort.holds_ahead _ _ _ _ _ _ hH) (by simp)
    refine ⟨he, .inr ⟨g, c, by simp, hb, ?_, by simpa using hc, Go.Sort.holds_grow _ _ _ _ _ _ (by rw [hp]; exact hg) hP⟩, fun hbs => ?_⟩
    · show g < (_ ++ _ : Array Obj).size
      rw [Array.size_append, hp]; omega
    · have h1 := (below_putRow (off := 0) (q := n) (d := (xs.mergeSort fun x y => decide (x ≤ y)).toArray) hg).mono hb
      refine ⟨rfl, rfl, rfl, ?_, fun k hk => ?_⟩
      · show _ ≤ (_ ++ _ : Array Obj).size
        rw [Array.size_append, hp]; omega
      · rw [Go.Sort.heap_grow_old _ _ (by rw [hp]; omega)]
        exact h1.block k hk

theorem compact_held {w : World} {base : Nat} {v : Value} {xs : List Int} (h : HeldI w base v xs) (hs : xs.length ≤ 1000000000000) :
    Calls Try.prog 75 #[v] w fun e w' => ∃ v', e = .returned v' ∧ HeldI w' base v' (Lib.compact xs) ∧ (base ≤ w.heap.size → Below base w w') := by
  rcases h with ⟨A, c, rfl, rfl⟩ | ⟨g, c, rfl, hb, hg, hc, hH⟩
  · exact (Try.slices_Compact_int_empty A c w).mono fun e w' ⟨he, hw⟩ => by
      subst hw
      exact ⟨_, he, .inl ⟨A, c, rfl, rfl⟩, fun _ => Below.refl _ _⟩
  · refine (Try.slices_Compact_int g 0 c xs w hH (by omega) hc).mono fun e w' ⟨he, q, hw⟩ => ?_
    subst hw
    have hle := Lib.compact_length_le xs
    have hP := Go.Sort.holds_putRow (Value.int .i64) (Go.Sort.ahead w q) g 0 xs.toArray (Lib.compact xs ++ List.replicate (xs.length - (Lib.compact xs).length) 0).toArray (Go.Sort.holds_ahead _ _ _ _ _ _ hH) (by simp; omega)
    refine ⟨_, he, .inr ⟨g, c, rfl, hb, by rw [putRow_size]; exact hg, by omega, fun j hj => ?_⟩, fun _ => (below_putRow hg).mono hb⟩
    have hj' : j < (Lib.compact xs).length := by simpa using hj
    obtain ⟨q1, q2⟩ := hP j (by simp; omega)
    refine ⟨?_, q2⟩
    rw [q1]
    congr 2
    simp [List.getElem?_append_left hj', hj']
end Go.Proofs
set_option linter.unusedVariables false
set_option linter.unusedSimpArgs false
namespace Go.Proofs
open Go.RowKit Go.Proofs.Mp

/-- the set of a list: ascending, without repetitions -/
def setL (zs : List Int) : List Int := Lib.compact (zs.mergeSort fun x y => decide (x ≤ y))
theorem setL_len (zs : List Int) : (setL zs).length ≤ zs.length := by
  have := Lib.compact_length_le (zs.mergeSort fun x y => decide (x ≤ y))
  rwa [List.length_mergeSort] at this

set_option maxHeartbeats 1000000 in
/-- idset.collect -/
theorem collect_any (A : Option Addr) (c : Nat) (ls : List (Option Addr × Nat × List Int)) (w : World) (h1 : ls.length ≤ 1000000) (h2 : sumL ls ≤ 1000000000000) (hA : RdS w A ls) (hS : ∀ s ∈ ls, RdI w s.1 s.2.2) :
    Calls Try.prog 60 #[.slice A ls.length c] w (fun e w' => ∃ v, e = .returned v ∧ HeldI w' w.heap.size v (setL (catL ls)) ∧ Below w.heap.size w w') := by
  have cC := concat_any A c ls w h1 h2 hA hS
  have hl := cat_len ls
  have hm := Lib.hid (show setL (catL ls) = Lib.compact ((catL ls).mergeSort fun x y => decide (x ≤ y)) from rfl)
  have hl2 : ((catL ls).mergeSort fun x y => decide (x ≤ y)).length ≤ 1000000000000 := by rw [List.length_mergeSort]; omega
  have cS := Lib.hid (fun (W : World) (v : Value) (h : HeldI W w.heap.size v (catL ls)) => sort_held h (by omega))
  have cK := Lib.hid (fun (W : World) (v : Value) (h : HeldI W w.heap.size v ((catL ls).mergeSort fun x y => decide (x ≤ y))) => compact_held h hl2)
  generalize ((catL ls).mergeSort fun x y => decide (x ≤ y)) = ms at *
  generalize setL (catL ls) = st at *
  generalize catL ls = xs at *
  go_enter Try.func60, Try.ntmps60
  go_wp2_with fail
  refine cC.mono ?_
  rintro e w1 ⟨v1, rfl, hown1, hb1⟩
  have hh1 := own_held hown1
  clear hown1
  go_wp2_with fail
  refine (cS.out w1 v1 hh1).mono ?_
  rintro e w2 ⟨rfl, hh2, hb2⟩
  have k2 := hb1.trans (hb2 hb1.size)
  go_wp2_with fail
  refine (cK.out w2 v1 hh2).mono ?_
  rintro e w3 ⟨v3, rfl, hh3, hb3⟩
  have k3 := k2.trans (hb3 k2.size)
  go_wp2
  go_ret
  exact ⟨_, rfl, by rw [hm.out]; exact hh3, k3⟩

theorem HeldI.ret {w w' : World} {base : Nat} {v : Value} {xs : List Int} (h : HeldI w' base v xs) (hb : Below w.heap.size w w') : RetRc 1 Mp.encI w xs (.returned v) w' := by
  have h0 := h
  rcases h with ⟨A, c, rfl, rfl⟩ | ⟨g, c, rfl, _, _, hc, _⟩
  · exact ⟨A, c, rfl, Nat.zero_le _, Rd.nil _, hb⟩
  · exact ⟨_, c, rfl, hc, (held_rd h0).2, hb⟩
end Go.Proofs
set_option linter.unusedVariables false
set_option linter.unusedSimpArgs false
namespace Go.Proofs
open Go.RowKit Go.Proofs.Mp

theorem rd_lit {α : Type} [Inhabited α] {k : Nat} {enc : α → List Value} (hk : ∀ x, (enc x).length = k) (w : World) (cs : Array Value) (t : TypeId) (xs : List α) (h : cs = (xs.flatMap enc).toArray) : Rd k enc (w.alloc (.cells cs t)) (some ⟨w.heap.size, 0, none⟩) xs := by
  subst h
  exact Row.rd hk (heap_alloc_new w _)
theorem encSl_len (s : Option Addr × Nat × List Int) : (encSl s).length = 1 := rfl

/-- the set of one list -/
theorem idset_normal_c (A : Option Addr) (c : Nat) (zs : List Int) (w : World) (h1 : zs.length ≤ 1000000000000) (hA : RdI w A zs) :
    Calls Try.prog 47 #[.slice A zs.length c] w (RetRc 1 Mp.encI w (setL zs)) := by
  have hb0 : Below w.heap.size w (w.alloc (.cells #[.slice A zs.length c] 23)) := (Below.refl _ _).alloc (Nat.le_refl _) _
  have cC := collect_any (some ⟨w.heap.size, 0, none⟩) 1 [(A, c, zs)] (w.alloc (.cells #[.slice A zs.length c] 23)) (by simp) (by simpa [sumL] using h1)
    (rd_lit encSl_len w _ 23 [(A, c, zs)] rfl) (fun s hs => by simp at hs; subst hs; exact hA.below hb0)
  have e1 : catL [(A, c, zs)] = zs := by simp [catL]
  rw [e1] at cC
  simp only [List.length_cons, List.length_nil, Nat.zero_add] at cC
  generalize setL zs = st at *
  go_enter Try.func47, Try.ntmps47
  go_wp2_with fail
  refine cC.mono ?_
  rintro e w1 ⟨v1, rfl, hh1, hb1⟩
  go_wp2
  go_ret
  exact hh1.ret (hb0.trans (hb1.mono hb0.size))

end Go.Proofs
/- Plain facts of ascending lists of integers. No program is walked here. -/
set_option linter.unusedVariables false
set_option linter.unusedSimpArgs false
namespace Go.Proofs

abbrev Asc (l : List Int) : Prop := l.Pairwise (· < ·)

theorem comp_spec (d : Array Int) (hs : ∀ i j, i < j → j < d.size → d[i]! ≤ d[j]!) : ∀ m, m ≤ d.size → Asc (Lib.compactUpTo d m) ∧ ∀ x, x ∈ Lib.compactUpTo d m ↔ ∃ j, j < m ∧ d[j]! = x
  | 0, _ => ⟨by simp [Lib.compactUpTo], fun x => by simp [Lib.compactUpTo]⟩
  | m + 1, hm => by
    obtain ⟨h1, h2⟩ := comp_spec d hs m (by omega)
    rw [Lib.compactUpTo_succ]
    by_cases h0 : m = 0
    · subst h0
      have hk : Lib.keeps d 0 = true := Lib.keeps_lt_one d 0 (by omega)
      rw [hk, if_pos rfl]
      have he : Lib.compactUpTo d 0 = [] := by simp [Lib.compactUpTo]
      rw [he]
      refine ⟨by simp, fun x => ?_⟩
      simp only [List.nil_append, List.mem_singleton]
      constructor
      · rintro rfl; exact ⟨0, by omega, rfl⟩
      · rintro ⟨j, hj, rfl⟩
        rw [show j = 0 by omega]
    · by_cases he : d[m]! = d[m - 1]!
      · rw [Lib.keeps_neg (by omega) he]
        simp only [Bool.false_eq_true, if_false, List.append_nil]
        refine ⟨h1, fun x => ?_⟩
        rw [h2]
        constructor
        · rintro ⟨j, hj, hx⟩; exact ⟨j, by omega, hx⟩
        · rintro ⟨j, hj, hx⟩
          by_cases hjm : j = m
          · subst hjm; exact ⟨j - 1, by omega, by rw [← he]; exact hx⟩
          · exact ⟨j, by omega, hx⟩
      · rw [Lib.keeps_pos he, if_pos rfl]
        refine ⟨List.pairwise_append.2 ⟨h1, by simp, fun x hx y hy => ?_⟩, fun x => ?_⟩
        · simp only [List.mem_singleton] at hy
          subst hy
          obtain ⟨j, hj, rfl⟩ := (h2 x).1 hx
          have a1 := hs (m - 1) m (by omega) (by omega)
          by_cases hjm : j = m - 1
          · subst hjm; omega
          · have a2 := hs j (m - 1) (by omega) (by omega)
            omega
        · rw [List.mem_append, h2, List.mem_singleton]
          constructor
          · rintro (⟨j, hj, hx⟩ | rfl)
            · exact ⟨j, by omega, hx⟩
            · exact ⟨m, by omega, rfl⟩
          · rintro ⟨j, hj, rfl⟩
            by_cases hjm : j = m
            · right; rw [hjm]
            · left; exact ⟨j, by omega, rfl⟩

theorem merge_sorted (zs : List Int) : (zs.mergeSort fun x y => decide (x ≤ y)).Pairwise (fun x y => x ≤ y) := by
  have := List.pairwise_mergeSort (le := fun x y : Int => decide (x ≤ y)) (by intro a b c h1 h2; simp at *; omega) (by intro a b; simp; omega) zs
  exact this.imp (by simp)

theorem setL_spec (zs : List Int) : Asc (setL zs) ∧ ∀ x, x ∈ setL zs ↔ x ∈ zs := by
  unfold setL Lib.compact
  have hs := merge_sorted zs
  have hm : ∀ x, x ∈ (zs.mergeSort fun x y => decide (x ≤ y)) ↔ x ∈ zs := fun x => List.mem_mergeSort
  generalize (zs.mergeSort fun x y => decide (x ≤ y)) = ms at *
  obtain ⟨h1, h2⟩ := comp_spec ms.toArray (fun i j hij hj => by
    have hj' : j < ms.length := by simpa using hj
    have := (List.pairwise_iff_getElem.1 hs) i j (by omega) hj' hij
    simpa [getElem!_pos, hj', show i < ms.length by omega] using this) ms.length (by simp)
  refine ⟨h1, fun x => ?_⟩
  rw [h2, ← hm x, List.mem_iff_getElem]
  constructor
  · rintro ⟨j, hj, rfl⟩
    exact ⟨j, hj, by simp [getElem!_pos, hj]⟩
  · rintro ⟨j, hj, rfl⟩
    exact ⟨j, hj, by simp [getElem!_pos, hj]⟩
theorem setL_asc (zs : List Int) : Asc (setL zs) := (setL_spec zs).1
theorem setL_mem (zs : List Int) (x : Int) : x ∈ setL zs ↔ x ∈ zs := (setL_spec zs).2 x

/-- two ascending lists with the same members are the same list -/
theorem Asc.unique : ∀ {a b : List Int}, Asc a → Asc b → (∀ x, x ∈ a ↔ x ∈ b) → a = b
  | [], [], _, _, _ => rfl
  | [], s :: bs, _, _, h => absurd ((h s).2 List.mem_cons_self) (by simp)
  | r :: rs, [], _, _, h => absurd ((h r).1 List.mem_cons_self) (by simp)
  | r :: rs, s :: bs, ha, hb, h => by
    obtain ⟨ha1, ha2⟩ := List.pairwise_cons.1 ha
    obtain ⟨hb1, hb2⟩ := List.pairwise_cons.1 hb
    have e : r = s := by
      rcases List.mem_cons.1 ((h r).1 List.mem_cons_self) with e | m1
      · exact e
      · rcases List.mem_cons.1 ((h s).2 List.mem_cons_self) with e | m2
        · exact e.symm
        · have := hb1 r m1; have := ha1 s m2; omega
    subst e
    congr 1
    refine Asc.unique ha2 hb2 fun x => ?_
    constructor
    · intro hx
      rcases List.mem_cons.1 ((h x).1 (List.mem_cons_of_mem _ hx)) with rfl | m
      · exact absurd (ha1 x hx) (by omega)
      · exact m
    · intro hx
      rcases List.mem_cons.1 ((h x).2 (List.mem_cons_of_mem _ hx)) with rfl | m
      · exact absurd (hb1 x hx) (by omega)
      · exact m
theorem setL_of_asc {zs : List Int} (h : Asc zs) : setL zs = zs := Asc.unique (setL_asc zs) h (setL_mem zs)
theorem setL_eq_iff (a b : List Int) : setL a = setL b ↔ ∀ x, x ∈ a ↔ x ∈ b := by
  constructor
  · intro h x; rw [← setL_mem a, h, setL_mem]
  · intro h; exact Asc.unique (setL_asc a) (setL_asc b) fun x => by rw [setL_mem, setL_mem, h]

theorem ascB_iff (zs : List Int) : ascB zs = true ↔ Asc zs := by
  unfold ascB
  rw [List.all_eq_true]
  constructor
  · intro h
    have key : ∀ j, j + 1 < zs.length → zs[j]! < zs[j + 1]! := fun j hj => by
      have := h (j + 1) (List.mem_range.2 hj)
      simpa using this
    have far : ∀ d i, i + d + 1 < zs.length → zs[i]! < zs[i + d + 1]! := by
      intro d
      induction d with
      | zero => intro i hi; exact key i hi
      | succ d ih =>
        intro i hi
        have h1 := ih i (by omega)
        have h2 := key (i + d + 1) hi
        rw [show i + (d + 1) + 1 = i + d + 1 + 1 by omega]
        omega
    refine List.pairwise_iff_getElem.2 fun i j hi hj hij => ?_
    have := far (j - i - 1) i (by omega)
    rw [show i + (j - i - 1) + 1 = j by omega] at this
    simpa [getElem!_pos, hi, hj] using this
  · intro h j hj
    rw [List.mem_range] at hj
    by_cases h0 : j = 0
    · simp [h0]
    · have := (List.pairwise_iff_getElem.1 h) (j - 1) j (by omega) hj (by omega)
      simp only [Bool.or_eq_true, decide_eq_true_eq]
      right
      simpa [getElem!_pos, hj, show j - 1 < zs.length by omega] using this
end Go.Proofs
set_option linter.unusedVariables false
set_option linter.unusedSimpArgs false
namespace Go.Proofs
open Go.RowKit Go.Proofs.Mp

theorem Try.appI {w : World} {base : Nat} {v : Value} {xs : List Int} {ops : Array Oper} {rest : List Oper} {o : Oper} {a : Act} {Q : Exit → Act → World → Prop}
    (hown : OwnI 3 w base v xs) (y : Int) (hgd : o.guard = none) (s x : Operand)
    (ho : o.op = .call { callee := .builtin .append, args := #[s, x], argTypes := #[23, 23] }) (hs : a.eval s = v) (hx : a.eval x = .slice (some ⟨w.heap.size, 0, none⟩) 1 1)
    (hN : xs.length + 1 ≤ 1000000000000) (hbase : base ≤ w.heap.size)
    (h : ∀ v' w', OwnI 3 w' base v' (xs ++ [y]) → Below base w w' → wpList Try.prog ops Q rest (a.put o.dst v') w') :
    wpList Try.prog ops Q (o :: rest) a (w.alloc (.cells #[.int .i64 y] 3)) := by
  obtain ⟨i0, hi, hz0, hz1, hz2⟩ := Mp.info_parts Try.infoI
  exact Own.append1 23 i0 (.int .i64 0) 8 Try.underlying23 hi hz0 hz1 hz2 rfl (by decide) (by decide) encI_len encI_one hgd s x ho hown hs y hx (by omega) hbase h

theorem filter_take_succ (p : Int → Bool) (l : List Int) (k : Nat) (h : k < l.length) : (l.take (k + 1)).filter p = (l.take k).filter p ++ (if p l[k]! then [l[k]!] else []) := by
  rw [List.take_succ_eq_append_getElem h, List.filter_append]
  congr 1
  simp [h, List.filter_cons]

end Go.Proofs
