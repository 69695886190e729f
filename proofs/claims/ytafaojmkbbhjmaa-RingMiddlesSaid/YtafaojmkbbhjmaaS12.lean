import Derived.Test.YtafaojmkbbhjmaaS11
import Derived.Maps.AppendAt
import Derived.Deep.CutBlock
import Derived.Deep.CutRange
set_option linter.unusedVariables false
set_option linter.unusedSimpArgs false
set_option maxRecDepth 100000
namespace Go.Proofs
open Go.RowKit Go.Proofs.Mp

/-- block g holds one slice: the list that the closure appends to -/
def OutCell (w : World) (g : Nat) (A : Option Addr) (n c : Nat) : Prop := w.heap[g]? = some (.cells #[.slice A n c] 55 (0, 0))
theorem OutCell.cell {w : World} {g : Nat} {A : Option Addr} {n c : Nat} (h : OutCell w g A n c) : w.cell? ⟨g, 0, none⟩ = some (.slice A n c) := by
  rw [cell_of_row w g 0 _ 55 (0, 0) h]; rfl
theorem OutCell.frozen {w : World} {g : Nat} {A : Option Addr} {n c : Nat} (h : OutCell w g A n c) : w.frozen? ⟨g, 0, none⟩ = false := frozen_of_row w g 0 _ 55 h

theorem rd_far {w : World} {g b off : Nat} {A : Option Addr} {n c : Nat} {x : Int} (hg : OutCell w g A n c) (h : w.cell? ⟨b, off, none⟩ = some (.int .i64 x)) : b ≠ g := by
  rintro rfl
  unfold OutCell at hg
  rw [cell_of_row w b off _ 55 (0, 0) hg] at h
  rcases off with _ | off
  · simp at h
  · simp at h

theorem rd_atG {w : World} {g : Nat} {X : Option Addr} {n c : Nat} (hg : OutCell w g X n c) {A : Option Addr} {xs : List (Int × Int)} (h : Rd 2 encR w A xs) {j : Nat} (hj : j < xs.length) :
    ∃ b off, A = some ⟨b, off, none⟩ ∧ b < w.heap.size ∧ b ≠ g ∧ Hid (∀ (wr : World), w.grownBy wr (some g) → ∀ j, j < xs.length → wr.cell? ⟨b, off + j * 2, none⟩ = some (.int .i64 xs[j]!.1) ∧ wr.cell? ⟨b, off + j * 2 + 1, none⟩ = some (.int .i64 xs[j]!.2)) := by
  obtain ⟨b, off, rfl, h1, h2⟩ := RdR.getAll h (Below.refl _ _) hj
  have hne := rd_far hg (h2 j hj).1
  refine ⟨b, off, rfl, h1, hne, fun wr hgr j hj => ?_⟩
  obtain ⟨g1, g2⟩ := h2 j hj
  exact ⟨hgr.cell g1 (by simpa using hne), hgr.cell g2 (by simpa using hne)⟩

theorem rd_headG {w : World} {g : Nat} {X : Option Addr} {n c : Nat} (hg : OutCell w g X n c) {A : Option Addr} {r : Int × Int} {rs : List (Int × Int)} (h : Rd 2 encR w A (r :: rs)) :
    ∃ b off, A = some ⟨b, off, none⟩ ∧ b < w.heap.size ∧ b ≠ g ∧ Hid (∀ wr : World, w.grownBy wr (some g) → wr.cell? ⟨b, off, none⟩ = some (.int .i64 r.1) ∧ wr.cell? ⟨b, off + 1, none⟩ = some (.int .i64 r.2)) ∧ Rd 2 encR w (some ⟨b, off + 2, none⟩) rs := by
  obtain ⟨b, off, rfl, h1, h2, h3⟩ := rd_head h
  obtain ⟨g1, g2⟩ := h2.out w (Below.refl _ _)
  have hne := rd_far hg g1
  exact ⟨b, off, rfl, h1, hne, fun wr hgr => ⟨hgr.cell g1 (by simpa using hne), hgr.cell g2 (by simpa using hne)⟩, h3⟩

theorem grown_drewN {a w : World} {row : Option Nat} (h : a.grownBy w row) (n : Nat) : a.grownBy (w.drewN n) row := ⟨h.os, h.tape, h.output, h.size, h.block⟩
theorem grown_alloc {a w : World} {row : Option Nat} (h : a.grownBy w row) (o : Obj) : a.grownBy (w.alloc o) row :=
  ⟨h.os, h.tape, h.output, Nat.le_trans h.size (by simp), fun i hi hne => (Below.heap_alloc w o i (Nat.lt_of_lt_of_le hi h.size)).trans (h.block i hi hne)⟩

theorem addr_if (xs : List (Int × Int)) (lo hi : Int) : (if lo < hi then xs ++ [(lo, hi)] else xs) = xs ++ addr lo hi := by
  unfold addr; split <;> simp

theorem Try.appQ {w : World} {base : Nat} {v : Value} {xs : List (Int × Int)} {ops : Array Oper} {rest : List Oper} {o : Oper} {a : Act} {Q : Exit → Act → World → Prop} {nb : Nat} (q : Nat) (hq : q < w.heap.size) (hqo : v.ownBlock ≠ some q)
    (hown : OwnR 52 w base v xs) (lo hi : Int) (hgd : o.guard = none) (s x : Operand)
    (ho : o.op = .call { callee := .builtin .append, args := #[s, x], argTypes := #[55, 55] }) (hs : a.eval s = v) (hx : a.eval x = .slice (some ⟨nb, 0, none⟩) 1 1) (hnb : nb = w.heap.size)
    (hN : xs.length + 1 ≤ 1000000000000) (hbase : base ≤ w.heap.size)
    (h : ∀ A' c' w', OwnR 52 w' base (.slice A' (xs ++ [(lo, hi)]).length c') (xs ++ [(lo, hi)]) → Below base w w' → w'.heap[q]? = w.heap[q]? → (Value.slice A' (xs ++ [(lo, hi)]).length c').ownBlock ≠ some q → wpList Try.prog ops Q rest (a.put o.dst (.slice A' (xs ++ [(lo, hi)]).length c')) w') :
    wpList Try.prog ops Q (o :: rest) a (w.alloc (.cells #[.int .i64 lo, .int .i64 hi] 52)) := by
  subst hnb
  obtain ⟨i0, hi0, hz0, hz1, hz2⟩ := info_parts Try.infoR
  have hadd : ∀ j, (⟨w.heap.size, 0, none⟩ : Addr).add j = ⟨w.heap.size, j, none⟩ := fun j => by
    unfold Addr.add
    split
    · simp_all
    · simp
  refine wpList_append_own_at _ hgd s x 55 ho base 52 i0 (.agg #[.int .i64 0, .int .i64 0]) 2 16 Try.underlying55 hi0 hz0 hz1 hz2 rfl (by decide) v xs.length (xs.flatMap encR) hs (World.ownsRow.alloc hown _)
    ⟨w.heap.size, 0, none⟩ 1 1 (encR (lo, hi)) hx rfl ?_ (encR_one _) (by unfold maxLen; omega) (by omega) (by simp; omega) ?_
  · intro j u hu
    rw [hadd, cell_of_row _ w.heap.size j _ 52 (0, 0) (heap_alloc_new w _)]
    simpa [encR] using hu
  · intro v' w' ho' hg _ hat
    have ho2 : OwnR 52 w' base v' (xs ++ [(lo, hi)]) := by
      unfold OwnR Own
      simpa using ho'
    obtain ⟨A', c', rfl⟩ := Own.slice ho2
    have h0 : Below base w (w.alloc (.cells #[.int .i64 lo, .int .i64 hi] 52)) := (Below.refl _ _).alloc hbase _
    refine h A' c' w' ho2 (h0.grown hg (by simp; omega) (fun k hk => (hown.lt k hk).1)) ?_ ?_
    · rw [hg.block q (by simp; omega) (fun e => hqo e.symm)]
      exact Below.heap_alloc _ _ _ hq
    · rcases hat with e | e
      · rw [e]; exact hqo
      · rw [e]
        intro h1
        injection h1 with h1
        simp at h1
        omega

/-- what Minus's closure leaves: the captured list is xs; block q is as it was -/
def AddPostQ (g base q : Nat) (xs : List (Int × Int)) (w : World) (e : Ending) (w' : World) : Prop :=
  e = .returned (.tuple #[]) ∧ ∃ A c, OutCell w' g A xs.length c ∧ OwnR 52 w' base (.slice A xs.length c) xs ∧ Below g w w' ∧ (∀ b, b < base → b ≠ g → w'.heap[b]? = w.heap[b]?) ∧ w'.heap[q]? = w.heap[q]? ∧ (Value.slice A xs.length c).ownBlock ≠ some q

theorem addPostQ_mk {g base q : Nat} {xs : List (Int × Int)} {w w1 : World} {A : Option Addr} {c : Nat} {X : Option Addr} {n m : Nat} (hg : OutCell w g X n m) (hgb : g < base) (hqg : q ≠ g)
    (hown : OwnR 52 w1 base (.slice A xs.length c) xs) (hb : Below base w w1) (hq : w1.heap[q]? = w.heap[q]?) (hqo : (Value.slice A xs.length c).ownBlock ≠ some q) : AddPostQ g base q xs w (.returned (.tuple #[])) (w1.setCell ⟨g, 0, none⟩ (.slice A xs.length c)) := by
  have h1 : w1.heap[g]? = some (.cells #[.slice X n m] 55 (0, 0)) := (hb.block g hgb).trans hg
  refine ⟨rfl, A, c, ?_, ownsRow_setCell_below hown hgb _, (hb.mono (Nat.le_of_lt hgb)).setCell (p := ⟨g, 0, none⟩) (Nat.le_refl _) _, fun b hlt hne => ?_, ?_, hqo⟩
  · unfold OutCell
    rw [heap_setCell_same w1 g 0 _ 55 _ h1]
    simp
  · rw [Below.heap_setCell _ _ _ _ hne]
    exact hb.block b hlt
  · rw [Below.heap_setCell _ _ _ _ hqg]
    exact hq

set_option maxHeartbeats 600000 in
theorem closure30q (lo hi : Int) (g base q : Nat) (A : Option Addr) (c : Nat) (xs : List (Int × Int)) (w : World) (hx : xs.length + 1 ≤ 1000000000000) (hg : OutCell w g A xs.length c) (hgb : g < base) (hbase : base ≤ w.heap.size) (hown : OwnR 52 w base (.slice A xs.length c) xs)
    (hq : q < w.heap.size) (hqg : q ≠ g) (hqo : (Value.slice A xs.length c).ownBlock ≠ some q) :
    Calls Try.prog 60 #[.int .i64 lo, .int .i64 hi, .pointer (some ⟨g, 0, none⟩)] w (AddPostQ g base q (xs ++ addr lo hi) w) := by
  have hc := hg.cell
  have hf := hg.frozen
  have hlt : g < w.heap.size := by omega
  have HG := Lib.hid hg
  have HB := Lib.hid hgb
  have HQO := Lib.hid hqo
  have HQG := Lib.hid hqg
  clear hg hqo hqg
  by_cases h : lo < hi
  · rw [show addr lo hi = [(lo, hi)] from if_pos h]
    go_enter Try.func60, Try.ntmps60
    go_wp2_with (at_builtin; refine Try.appQ q hq HQO.out hown lo hi rfl _ _ rfl rfl rfl (by simp) (by omega) (by omega) ?_; clear hown; intro A1 c1 w1 hown1 hb1 hq1 hqo1; have hc1 := (hb1.cell (p := ⟨g, 0, none⟩) hgb).trans hc; have hf1 : w1.frozen? ⟨g, 0, none⟩ = false := (by rw [hb1.frozen (p := ⟨g, 0, none⟩) hgb]; exact hf); have HQ1 := Lib.hid hq1; have HQO1 := Lib.hid hqo1; clear hc hf hq1 hqo1)
    go_end0
    simpa using addPostQ_mk HG.out HB.out HQG.out hown1 hb1 HQ1.out HQO1.out
  · rw [show addr lo hi = [] from if_neg h, List.append_nil]
    go_enter Try.func60, Try.ntmps60
    go_wp2
    go_end0
    exact ⟨rfl, A, c, HG.out, hown, Below.refl _ _, fun _ _ _ => rfl, rfl, HQO.out⟩

/-- the closure's call, as Minus meets it: wl is the world in which the loop began -/
theorem add_any (lo hi : Int) (g q : Nat) (wl w : World) (A : Option Addr) (c : Nat) (xs : List (Int × Int)) (hx : xs.length + 1 ≤ 1000000000000) (hgb : g < wl.heap.size) (hgr : wl.grownBy w (some g))
    (hg : OutCell w g A xs.length c) (hown : OwnR 52 w wl.heap.size (.slice A xs.length c) xs) (hq : q < w.heap.size) (hqg : q ≠ g) (hqo : (Value.slice A xs.length c).ownBlock ≠ some q) :
    Calls Try.prog 60 #[.int .i64 lo, .int .i64 hi, .pointer (some ⟨g, 0, none⟩)] w fun e w' => e = .returned (.tuple #[]) ∧ ∃ A' c', wl.grownBy w' (some g) ∧ OutCell w' g A' (xs ++ addr lo hi).length c' ∧ OwnR 52 w' wl.heap.size (.slice A' (xs ++ addr lo hi).length c') (xs ++ addr lo hi) ∧
      Hid (w'.heap[q]? = w.heap[q]?) ∧ Hid ((Value.slice A' (xs ++ addr lo hi).length c').ownBlock ≠ some q) ∧ w.heap.size ≤ w'.heap.size := by
  refine (closure30q lo hi g wl.heap.size q A c xs w hx hg hgb hgr.size hown hq hqg hqo).mono ?_
  rintro e w' ⟨he, A', c', h1, h2, h3, h4, h5, h6⟩
  exact ⟨he, A', c', ⟨h3.os.trans hgr.os, h3.tape.trans hgr.tape, h3.output.trans hgr.output, Nat.le_trans hgr.size h3.size, fun k hk hne => (h4 k hk (by simpa using hne)).trans (hgr.block k hk hne)⟩, h1, h2, h5, h6, h3.size⟩

/-- the state of Minus's outer loop -/
def MinusSt (wl : World) (g : Nat) (na nb : List (Int × Int)) (v1 v16 : Value) (wr : World) : Prop :=
  ∃ (k : Nat) (rb out : List (Int × Int)) (B A : Option Addr) (cb c : Nat), v16 = .int .i64 k ∧ k ≤ na.length ∧ v1 = .slice B rb.length cb ∧ rb.length ≤ cb ∧ rb.length ≤ nb.length ∧ Rd 2 encR wl B rb ∧
    wl.grownBy wr (some g) ∧ OutCell wr g A out.length c ∧ OwnR 52 wr wl.heap.size (.slice A out.length c) out ∧ Hid (out ++ minusF (na.drop k) rb = minusF na nb) ∧ out.length ≤ k * (nb.length + 1)

theorem dropB_yes (r1 : Int) (s : Int × Int) (ss : List (Int × Int)) (h : s.2 ≤ r1) : dropB r1 (s :: ss) = dropB r1 ss := by simp [dropB, h]
theorem dropB_no (r1 : Int) (rb : List (Int × Int)) (h : ∀ s ss, rb = s :: ss → ¬ s.2 ≤ r1) : dropB r1 rb = rb := by
  rcases rb with _ | ⟨s, ss⟩
  · rfl
  · simp [dropB, h s ss rfl]
theorem cutF_yes (lo hi : Int) (D : List (Int × Int)) (j : Nat) (hj : j < D.length) (h : D[j]!.1 < hi) : cutF lo (D.drop j) hi = addr lo D[j]!.1 ++ cutF D[j]!.2 (D.drop (j + 1)) hi := by
  rw [List.drop_eq_getElem_cons hj]
  have e : D[j]! = D[j] := by simp [hj]
  rw [e] at h ⊢
  simp [cutF, h]
theorem cutF_no (lo hi : Int) (D : List (Int × Int)) (j : Nat) (h : j < D.length → ¬ D[j]!.1 < hi) : cutF lo (D.drop j) hi = addr lo hi := by
  by_cases hj : j < D.length
  · have h' := h hj
    rw [List.drop_eq_getElem_cons hj]
    have e : D[j]! = D[j] := by simp [hj]
    rw [e] at h'
    simp [cutF, h']
  · rw [List.drop_eq_nil_of_le (by omega)]; rfl

/-- the state of the first inner loop: what is left of b -/
def DropSt (wl wo : World) (N : Nat) (rb : List (Int × Int)) (r1 : Int) (v1 : Value) (w' : World) : Prop :=
  ∃ (n : Nat) (ra : List (Int × Int)) (B : Option Addr) (cb : Nat), w' = wo.drewN n ∧ v1 = .slice B ra.length cb ∧ ra.length ≤ cb ∧ ra.length ≤ N ∧ Rd 2 encR wl B ra ∧ Hid (dropB r1 ra = dropB r1 rb)
/-- .. and behind it -/
def DropEnd (wl wo : World) (N : Nat) (rb : List (Int × Int)) (r1 : Int) (v1 : Value) (w' : World) : Prop :=
  ∃ (n : Nat) (ra : List (Int × Int)) (B : Option Addr) (cb : Nat), w' = wo.drewN n ∧ v1 = .slice B ra.length cb ∧ ra.length ≤ cb ∧ ra.length ≤ N ∧ Rd 2 encR wl B ra ∧ Hid (dropB r1 rb = ra)
/-- the state of the second inner loop -/
def CutSt (wl : World) (g q : Nat) (r1 r2 : Int) (D out : List (Int × Int)) (v8 v9 : Value) (w' : World) : Prop :=
  ∃ (j : Nat) (lo : Int) (ou : List (Int × Int)) (A : Option Addr) (c : Nat), v9 = .int .i64 j ∧ v8 = .int .i64 lo ∧ j ≤ D.length ∧ wl.grownBy w' (some g) ∧ OutCell w' g A ou.length c ∧ OwnR 52 w' wl.heap.size (.slice A ou.length c) ou ∧
    Hid (w'.heap[q]? = some (.cells #[.int .i64 r1, .int .i64 r2] 52 (0, 0))) ∧ Hid ((Value.slice A ou.length c).ownBlock ≠ some q) ∧ q < w'.heap.size ∧ Hid (ou ++ cutF lo (D.drop j) r2 = out ++ cutF r1 D r2) ∧ ou.length ≤ out.length + j
/-- .. and behind it -/
def CutEnd (wl : World) (g q : Nat) (r1 r2 : Int) (D out : List (Int × Int)) (v8 : Value) (w' : World) : Prop :=
  ∃ (lo : Int) (ou : List (Int × Int)) (A : Option Addr) (c : Nat), v8 = .int .i64 lo ∧ wl.grownBy w' (some g) ∧ OutCell w' g A ou.length c ∧ OwnR 52 w' wl.heap.size (.slice A ou.length c) ou ∧
    Hid (w'.heap[q]? = some (.cells #[.int .i64 r1, .int .i64 r2] 52 (0, 0))) ∧ Hid ((Value.slice A ou.length c).ownBlock ≠ some q) ∧ q < w'.heap.size ∧ Hid (ou ++ addr lo r2 = out ++ cutF r1 D r2) ∧ ou.length ≤ out.length + D.length
theorem box_cells {w : World} {q : Nat} {x y : Value} (h : w.heap[q]? = some (.cells #[x, y] 52 (0, 0))) : w.cell? ⟨q, 0, none⟩ = some x ∧ w.cell? ⟨q, 1, none⟩ = some y := by
  constructor
  · rw [cell_of_row w q 0 _ 52 (0, 0) h]; rfl
  · rw [cell_of_row w q 1 _ 52 (0, 0) h]; rfl

set_option maxHeartbeats 4000000 in
theorem span_minus (A B : Option Addr) (c d : Nat) (xs ys : List (Int × Int)) (w : World) (h1 : xs.length ≤ 900000) (h2 : ys.length ≤ 900000) (hA : RdR w A xs) (hB : RdR w B ys) :
    Calls Try.prog 51 #[.slice A xs.length c, .slice B ys.length d] w (RetR w (minusL xs ys)) := by
  have cA := fun W (hb : Below w.heap.size w W) => span_normal_c A c xs W (by omega) (hA.below hb)
  have cB := fun W (hb : Below w.heap.size w W) => span_normal_c B d ys W (by omega) (hB.below hb)
  have n1 := normL_len xs
  have n2 := normL_len ys
  have HI := Lib.hid (show minusL xs ys = minusF (normL xs) (normL ys) from rfl)
  generalize normL xs = na at *
  generalize normL ys = nb at *
  have CA := Lib.hid cA
  have CB := Lib.hid cB
  clear cA cB hA hB
  have hmf : ∀ (fn : Fn) (first cap : Array Value) (w : World), (Instr.makeFunc fn first cap).run Try.prog w = .ok (.func fn first cap) w := fun _ _ _ _ => rfl
  have hb0 : Below w.heap.size w (w.alloc (.cells #[.slice none 0 0] 55)) := (Below.refl _ _).alloc (Nat.le_refl _) _
  go_enter Try.func51, Try.ntmps51
  go_wp2_with fail
  refine (CB.out _ hb0).mono ?_
  rintro e w1 ⟨B1, d1, rfl, hc2, hR2, hb2⟩
  go_wp2_with fail
  have hb01 : Below w.heap.size w w1 := hb0.trans (hb2.mono hb0.size)
  refine (CA.out _ hb01).mono ?_
  rintro e wl ⟨A1, c1, rfl, hc1, hR1, hb1⟩
  go_wp2_with fail
  have hsz0 : w.heap.size < (w.alloc (.cells #[.slice none 0 0] 55)).heap.size := by simp
  have hO0 : OutCell (w.alloc (.cells #[.slice none 0 0] 55)) w.heap.size none 0 0 := heap_alloc_new w _
  have hO1 : OutCell w1 w.heap.size none 0 0 := (hb2.block _ hsz0).trans hO0
  have hsz1 : w.heap.size < w1.heap.size := Nat.lt_of_lt_of_le hsz0 hb2.size
  have hOl : OutCell wl w.heap.size none 0 0 := (hb1.block _ hsz1).trans hO1
  have hgl : w.heap.size < wl.heap.size := Nat.lt_of_lt_of_le hsz1 hb1.size
  have hbl0 : Below w.heap.size w wl := hb01.trans (hb1.mono hb01.size)
  have hRb0 : Rd 2 encR wl B1 nb := hR2.below hb1
  clear hR2 hO0 hO1 hb2 hb1 hb01 hb0 hsz0 hsz1 CA CB hmf
  have HWL := Lib.hid hbl0
  clear hbl0
  obtain ⟨g, hg⟩ : ∃ g, g = w.heap.size := ⟨_, rfl⟩
  rw [← hg] at hOl hgl
  rw [← hg]
  have HGG := Lib.hid hg
  clear hg
  have hM : na.length * (nb.length + 1) ≤ 900000 * 900001 := Nat.mul_le_mul (by omega) (by omega)
  go_loopw [1, 16] (fun v1 v16 wr => MinusSt wl g na nb v1 v16 wr) (fun _ i _ => na.length - (intOf i).toNat)
  case atStart => exact ⟨0, nb, [], B1, none, d1, 0, rfl, Nat.zero_le _, rfl, hc2, Nat.le_refl _, hRb0, World.grownBy.refl _ _, hOl, Own.nil _ _, by rw [List.drop_zero]; rfl, by simp⟩
  case round =>
    obtain ⟨k, rb, out, Bb, Ao, cb, co, rfl, hk, rfl, hcb, hrbl, hRb, hgr, hOc, hown, hsum, hlen⟩ := hrel
    have hgs := hgr.size
    by_cases hlt : k < na.length
    · obtain ⟨b, off, rfl, hb, hbg, HC⟩ := rd_atG hOl hR1 hlt
      obtain ⟨h1, h2⟩ := HC.out wr hgr k hlt
      have hdrop : na.drop k = na[k]! :: na.drop (k + 1) := by rw [List.drop_eq_getElem_cons hlt]; simp [hlt]
      rw [hdrop] at hsum
      clear hdrop
      rcases hz : na[k]! with ⟨r1, r2⟩
      rw [hz] at h1 h2 hsum
      have hbr : b < wr.heap.size := by omega
      have hkM : k * (nb.length + 1) + (nb.length + 1) ≤ na.length * (nb.length + 1) := by
        have := Nat.mul_le_mul_right (nb.length + 1) (show k + 1 ≤ na.length from hlt)
        rwa [Nat.succ_mul] at this
      clear hz HC
      change Hid (out ++ (cutF r1 (dropB r1 rb) r2 ++ minusF (na.drop (k + 1)) (dropB r1 rb)) = minusF na nb) at hsum
      have hq0 : (wr.alloc (.cells #[.int .i64 r1, .int .i64 r2] 52)).heap[wr.heap.size]? = some (.cells #[.int .i64 r1, .int .i64 r2] 52 (0, 0)) := heap_alloc_new wr _
      have hgro : wl.grownBy (wr.alloc (.cells #[.int .i64 r1, .int .i64 r2] 52)) (some g) := grown_alloc hgr _
      have hOo : OutCell (wr.alloc (.cells #[.int .i64 r1, .int .i64 r2] 52)) g Ao out.length co := (Below.heap_alloc _ _ _ (by omega)).trans hOc
      have howo : OwnR 52 (wr.alloc (.cells #[.int .i64 r1, .int .i64 r2] 52)) wl.heap.size (.slice Ao out.length co) out := Own.alloc hown _
      have hqo : (Value.slice Ao out.length co).ownBlock ≠ some wr.heap.size := fun h => by have := (World.ownsRow.lt hown _ h).2; omega
      have hqs : wr.heap.size < (wr.alloc (.cells #[.int .i64 r1, .int .i64 r2] 52)).heap.size := by simp
      have hqg : wr.heap.size ≠ g := by omega
      go_upto_block 2 with fail
      obtain ⟨wo, hwo⟩ : ∃ wo : World, wo = wr.alloc (.cells #[.int .i64 r1, .int .i64 r2] 52) := ⟨_, rfl⟩
      rw [← hwo] at hq0 hgro hOo howo hqs
      rw [← hwo]
      obtain ⟨q, hq⟩ : ∃ q, q = wr.heap.size := ⟨_, rfl⟩
      rw [← hq] at hq0 hqo hqs hqg
      rw [← hq]
      obtain ⟨hx1, hx2⟩ := box_cells hq0
      have HQ0 := Lib.hid hq0
      have HQO := Lib.hid hqo
      clear hwo hq hq0 hqo hgr hOc hown h1 h2 hbr hgs hb hbg
      go_cut [1] from 20 to 52 (fun v1 w' => DropEnd wl wo nb.length rb r1 v1 w')
      case first =>
        go_wp2_with fail
        go_loopw [1] (fun v1 w' => DropSt wl wo nb.length rb r1 v1 w') (fun v1 _ => lenOfV v1)
        case atStart => exact ⟨0, rb, Bb, cb, rfl, rfl, hcb, hrbl, hRb, rfl⟩
        case round =>
          obtain ⟨n, ra, Ba, ca, rfl, rfl, hca, hral, hRa, hdr⟩ := hrel
          clear hRb hcb hrbl
          by_cases hyes : ∃ s ss, ra = s :: ss ∧ s.2 ≤ r1
          · as_aux_lemma =>
            obtain ⟨⟨s1, s2⟩, ss, rfl, hle⟩ := hyes
            obtain ⟨b, off, rfl, hb, hbg, HC, hRs⟩ := rd_headG hOl hRa
            obtain ⟨h1, h2⟩ := HC.out wo hgro
            rw [dropB_yes _ _ _ hle] at hdr
            dsimp only at h1 h2 hle
            simp only [List.length_cons] at hca hral ⊢
            have hl0 : decide ((0 : Int) < (ss.length : Int) + 1) = true := decide_eq_true (by omega)
            have hl1 : (0 : Int) < (ss.length : Int) + 1 := by omega
            have hl2 : decide (s2 ≤ r1) = true := decide_eq_true hle
            by_cases hc : ca = 1
            · have hnil : ss = [] := List.eq_nil_of_length_eq_zero (by omega)
              subst hnil hc
              simp only [List.length_nil, Nat.zero_add] at hl0 hl1 ⊢
              go_wp2_with fail
              go_quiet (fail)
              go_wp2
              go_roundw
              case rel => exact ⟨_, [], _, 0, rfl, rfl, Nat.le_refl _, Nat.zero_le _, Rd.nil _, hdr⟩
              case measure => simp [lenOfV]
            · go_wp2_with fail
              go_quiet (fail)
              go_wp2
              go_roundw
              case rel => exact ⟨_, ss, _, ca - 1, rfl, rfl, by omega, by omega, hRs, hdr⟩
              case measure => simp [lenOfV]
          · as_aux_lemma =>
            have hno := dropB_no r1 ra (fun s ss he hle => hyes ⟨s, ss, he, hle⟩)
            have HD := Lib.hid (show dropB r1 rb = ra by rw [← hdr.out, hno])
            clear hdr hno
            have HY := Lib.hid hyes
            clear hyes
            rcases Nat.eq_zero_or_pos ra.length with hz | hz
            · have hd0 : decide ((0 : Int) < (ra.length : Int)) = false := decide_eq_false (by omega)
              go_wp2_with fail
              go_quiet (fail)
              go_wp2_with fail
              go_meet
              exact ⟨_, ra, Ba, ca, World.drewN_drewN _ _ _, rfl, hca, hral, hRa, HD⟩
            · obtain ⟨b, off, rfl, hb, hbg, HC⟩ := rd_atG hOl hRa hz
              obtain ⟨h1, h2⟩ := HC.out wo hgro 0 hz
              have hgt : ¬ ra[0]!.2 ≤ r1 := fun hle => by
                rcases ra with _ | ⟨s, ss⟩
                · simp at hz
                · exact HY.out ⟨s, ss, rfl, hle⟩
              rcases hzs : ra[0]! with ⟨s1, s2⟩
              rw [hzs] at h1 h2 hgt
              clear hzs
              simp only [Nat.zero_mul, Nat.add_zero] at h1 h2 hgt
              have hd1 : decide (s2 ≤ r1) = false := decide_eq_false hgt
              have hd0 : decide ((0 : Int) < (ra.length : Int)) = true := decide_eq_true (by omega)
              have hd2 : (0 : Int) < (ra.length : Int) := by omega
              go_wp2_with fail
              go_quiet (fail)
              go_wp2_with fail
              go_meet
              exact ⟨_, ra, _, ca, World.drewN_drewN _ _ _, rfl, hca, hral, hRa, HD⟩
      case rest =>
        obtain ⟨n, ra, Ba, ca, rfl, rfl, hca, hral, hRa, HD⟩ := hcut
        rw [HD.out] at hsum
        clear hRb hcb hrbl HD
        go_upto_block 4 with fail
        have hgro2 : wl.grownBy (wo.drewN n) (some g) := grown_drewN hgro _
        go_cut [8, 9] from 36 to 64 (fun v8 v9 w' => CutEnd wl g q r1 r2 ra out v8 w')
        case first =>
          clear hx1 hx2
          go_wp2_with fail
          go_loopw [8, 9] (fun v8 v9 w' => CutSt wl g q r1 r2 ra out v8 v9 w') (fun _ i _ => ra.length - (intOf i).toNat)
          case atStart => exact ⟨0, r1, out, Ao, co, rfl, rfl, Nat.zero_le _, hgro2, hOo, howo, HQ0, HQO, hqs, rfl, by omega⟩
          case round =>
            obtain ⟨j, lo, ou, A3, c3, rfl, rfl, hj, hgr3, hOc3, hown3, hbox, hqo3, hqs3, hcut, hlen3⟩ := hrel
            have hoc := hOc3.cell
            have hof := hOc3.frozen
            obtain ⟨hy1, hy2⟩ := box_cells hbox.out
            clear hOo howo hgro hgro2 hqs hsum
            by_cases hjl : j < ra.length
            · obtain ⟨b3, off3, rfl, hb3, hbg3, HC3⟩ := rd_atG hOl hRa hjl
              have HC4 := fun (W : World) (h : wl.grownBy W (some g)) => HC3.out W h j hjl
              have hjj0 : (0 : Int) ≤ (j : Int) := Int.natCast_nonneg _
              have hjj1 : (j : Int) < (ra.length : Int) := by omega
              have hjd : decide (j < ra.length) = true := decide_eq_true hjl
              have hjd' : decide ((j : Int) < (ra.length : Int)) = true := decide_eq_true hjj1
              have HZ := Lib.hid (show ra[j]! = ra[j]! from rfl)
              rcases hzz : ra[j]! with ⟨t1, t2⟩
              rw [hzz] at HC4
              have HC5 := Lib.hid HC4
              have HZZ := Lib.hid hzz
              clear HC3 HC4 hzz HZ
              obtain ⟨k1, k2⟩ := HC5.out _ hgr3
              dsimp only at k1 k2
              by_cases hjs : t1 < r2
              · as_aux_lemma =>
                have hstep := cutF_yes lo r2 ra j hjl (by rw [HZZ.out]; exact hjs)
                rw [hstep, HZZ.out] at hcut
                have hjs' : decide (t1 < r2) = true := decide_eq_true hjs
                clear hstep
                go_wp2_with fail
                go_quiet (fail)
                go_wp2_with fail
                refine (add_any lo t1 g q wl _ A3 c3 ou (by omega) hgl (grown_drewN hgr3 _) hOc3 hown3 hqs3 hqg hqo3.out).mono ?_
                rintro e w4 ⟨rfl, A4, c4, hgr4, hOc4, hown4, hbox4, hqo4, hsz4⟩
                obtain ⟨m1, m2⟩ := HC5.out w4 hgr4
                clear k1 k2 hoc hof hy1 hy2
                go_wp2
                go_roundw
                case rel => exact ⟨j + 1, t2, ou ++ addr lo t1, A4, c4, by go_num, rfl, by omega, hgr4, hOc4, hown4, hbox4.out.trans hbox.out, hqo4, Nat.lt_of_lt_of_le hqs3 hsz4, (by rw [List.append_assoc]; exact hcut.out), (by have := addr_len lo t1; simp only [List.length_append]; omega)⟩
                case measure => simp [intOf]; omega
              · as_aux_lemma =>
                have hfin := cutF_no lo r2 ra j (fun _ => by rw [HZZ.out]; exact hjs)
                rw [hfin] at hcut
                have hjs' : decide (t1 < r2) = false := decide_eq_false hjs
                clear hfin
                go_wp2_with fail
                go_quiet (fail)
                go_wp2_with fail
                go_meet
                exact ⟨lo, ou, A3, c3, rfl, grown_drewN hgr3 _, hOc3, hown3, hbox, hqo3, hqs3, hcut, by omega⟩
            · as_aux_lemma =>
              have hfin := cutF_no lo r2 ra j (fun h => absurd h hjl)
              rw [hfin] at hcut
              have hjd : decide (j < ra.length) = false := decide_eq_false hjl
              have hjd' : decide ((j : Int) < (ra.length : Int)) = false := decide_eq_false (by omega)
              clear hfin
              go_wp2_with fail
              go_quiet (fail)
              go_wp2_with fail
              go_meet
              exact ⟨lo, ou, A3, c3, rfl, grown_drewN hgr3 _, hOc3, hown3, hbox, hqo3, hqs3, hcut, by omega⟩
        case rest =>
          obtain ⟨lo, ou, A3, c3, rfl, hgr3, hOc3, hown3, hbox, hqo3, hqs3, hcut2, hlen3⟩ := hcut
          obtain ⟨hy1, hy2⟩ := box_cells hbox.out
          clear hx1 hx2 hOo howo hgro hgro2 hqs
          go_wp2_with fail
          refine (add_any lo r2 g q wl _ A3 c3 ou (by omega) hgl hgr3 hOc3 hown3 hqs3 hqg hqo3.out).mono ?_
          rintro e w4 ⟨rfl, A4, c4, hgr4, hOc4, hown4, hbox4, hqo4, hsz4⟩
          clear hy1 hy2
          go_wp2
          go_roundw
          case rel => exact ⟨k + 1, ra, ou ++ addr lo r2, _, A4, ca, c4, by go_num, by omega, rfl, hca, hral, hRa, hgr4, hOc4, hown4, (by rw [hcut2.out, List.append_assoc]; exact hsum.out), (by have := addr_len lo r2; rw [Nat.succ_mul]; simp only [List.length_append]; omega)⟩
          case measure => simp [intOf]; omega
    · obtain rfl : k = na.length := by omega
      have hoc := hOc.cell
      have hof := hOc.frozen
      go_wp2
      refine bodyPost_ret (v := .slice Ao out.length co) ?_ rfl ?_
      · simp [results, Try.results51, go_sem, hoc, hof]
      · have e : out = minusL xs ys := by
          have h := hsum.out
          rw [List.drop_length] at h
          rw [HI.out, ← h]
          simp [minusF]
        rw [← e]
        have hbg : Below g wl wr := ⟨hgr.os, hgr.tape, hgr.output, hgr.size, fun i hi => hgr.block i (by omega) (by intro h; injection h with h; omega)⟩
        have hbw : Below w.heap.size w wr := HWL.out.trans (hbg.mono (Nat.le_of_eq HGG.out.symm))
        exact ⟨Ao, co, rfl, Own.rd encR_len (ownsRow_setCell_below (a := ⟨g, 0, none⟩) hown hgl _), hbw.setCell (p := ⟨g, 0, none⟩) (Nat.le_of_eq HGG.out.symm) _⟩
end Go.Proofs
