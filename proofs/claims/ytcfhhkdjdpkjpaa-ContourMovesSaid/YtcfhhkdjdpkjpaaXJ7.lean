/- slices.Compact on points. -/
import Derived.Test.YtcfhhkdjdpkjpaaXJ6
import Derived.Lib.SlicesCompact
import Derived.Shelf.RegionOpenPlain
set_option linter.unusedVariables false
set_option linter.unusedSimpArgs false
namespace Go.Proofs
open Go.RowKit Go.Proofs.Mp Go.Lib

/-- block g, which is the call's to turn, holds the points dk -/
def RowC (w W : World) (g : Nat) (dk : Array (Int × Int)) : Prop :=
  w.grownBy W (some g) ∧ (∀ j, W.frozen? ⟨g, j, none⟩ = false) ∧ ∀ j, j < dk.size → W.cell? ⟨g, j * 2, none⟩ = some (.int .i64 dk[j]!.1) ∧ W.cell? ⟨g, j * 2 + 1, none⟩ = some (.int .i64 dk[j]!.2)
theorem RowC.drewN {w W : World} {g : Nat} {dk : Array (Int × Int)} (h : RowC w W g dk) (n : Nat) : RowC w (W.drewN n) g dk := ⟨⟨h.1.os, h.1.tape, h.1.output, h.1.size, h.1.block⟩, h.2⟩
theorem RowC.drew {w W : World} {g : Nat} {dk : Array (Int × Int)} (h : RowC w W g dk) : RowC w W.drew g dk := ⟨⟨h.1.os, h.1.tape, h.1.output, h.1.size, h.1.block⟩, h.2⟩
theorem grown_set' (w : World) (p : Addr) (v : Value) : w.grownBy (w.setCell p v) (some p.block) :=
  ⟨rfl, rfl, rfl, by simp [World.setCell], fun k hk hne => by rw [heap_setCell_other _ _ _ _ (by intro e; exact hne (by rw [e]))]⟩
theorem RowC.set {w W : World} {g : Nat} {dk : Array (Int × Int)} (h : RowC w W g dk) {i : Nat} (hi : i < dk.size) (x y : Int) :
    RowC w ((W.setCell ⟨g, i * 2, none⟩ (.int .i64 x)).setCell ⟨g, i * 2 + 1, none⟩ (.int .i64 y)) g (dk.setIfInBounds i (x, y)) := by
  obtain ⟨h1, h2, h3⟩ := h
  refine ⟨(h1.trans (grown_set' W _ _)).trans (grown_set' _ _ _), fun j => by simp [h2 j], fun j hj => ?_⟩
  rw [Array.size_setIfInBounds] at hj
  by_cases e : j = i
  · subst e
    obtain ⟨c1, c2⟩ := h3 j hj
    have e1 : (dk.setIfInBounds j (x, y))[j]! = (x, y) := by simp [hj]
    rw [e1]
    constructor
    · rw [World.cell?_setCell_other _ _ _ _ (by intro e; injection e with _ e _; omega)]
      exact World.cell?_setCell_same _ _ _ c1
    · refine World.cell?_setCell_same _ _ _ (u := .int .i64 dk[j]!.2) ?_
      rw [World.cell?_setCell_other _ _ _ _ (by intro e; injection e with _ e _; omega)]
      exact c2
  · have e1 : (dk.setIfInBounds i (x, y))[j]! = dk[j]! := by
      simp only [getElem!_def, Array.getElem?_setIfInBounds, if_neg (Ne.symm e)]
    rw [e1]
    obtain ⟨c1, c2⟩ := h3 j hj
    constructor
    · rw [World.cell?_setCell_other _ _ _ _ (by intro e; injection e with _ e _; omega), World.cell?_setCell_other _ _ _ _ (by intro e; injection e with _ e _; omega)]
      exact c1
    · rw [World.cell?_setCell_other _ _ _ _ (by intro e; injection e with _ e _; omega), World.cell?_setCell_other _ _ _ _ (by intro e; injection e with _ e _; omega)]
      exact c2
theorem grown_sets (b : Nat) : ∀ (vs : List Value) (o : Nat) (w : World), w.grownBy (w.setCells b o vs) (some b)
  | [], _, w => World.grownBy.refl _ _
  | v :: r, o, w => (grown_set' w ⟨b, o, none⟩ v).trans (grown_sets b r (o + 1) _)
theorem run_clear_wide {P : Program} (w : World) (t e ty : TypeId) (z : Value) (ht : P.underlying t = some (.slice e)) (hv : ∀ w, (zeroValue e).run P w = .ok z w) (h1 : ∀ v ∈ z.cells, v.oneCell' = true) (b o n c : Nat) (hn : 0 < n) (hz : 0 < z.cells.size)
    (hc : ∀ j, j < n * z.cells.size → (w.cell? ⟨b, o + j, none⟩).isSome = true) (hf : ∀ j, j < n * z.cells.size → w.frozen? ⟨b, o + j, none⟩ = false) :
    ∃ vs : List Value, vs.length = n * z.cells.size ∧ (Builtin.clear_ #[t] ty #[.slice (some ⟨b, o, none⟩) n c]).run P w = .ok (.tuple #[]) (w.setCells b o vs) := by
  refine ⟨(Builtin.zeroCells z.cells n).toList, by simp [Builtin.zeroCells], ?_⟩
  have hst := run_storeCells_cells (P := P) b o (Builtin.zeroCells z.cells n).toList 0 w (by simpa [Builtin.zeroCells] using hc) (by simpa [Builtin.zeroCells] using hf) (by
    intro v hv'
    simp only [Builtin.zeroCells, Array.toList_map, List.mem_map] at hv'
    obtain ⟨i, _, rfl⟩ := hv'
    have hm := Nat.mod_lt i hz
    rw [getElem!_pos z.cells _ hm]
    exact h1 _ (Array.getElem_mem hm))
  simp only [Nat.add_zero] at hst
  obtain ⟨m, rfl⟩ : ∃ m, n = m + 1 := ⟨n - 1, by omega⟩
  simp [Builtin.clear_, run_underlying ht, hv, hst]
/-- the points without repetition -/
def cmpL (xs : List (Int × Int)) : List (Int × Int) := compactUpTo xs.toArray xs.toArray.size
theorem RowC.done {w W : World} {g k : Nat} {d dk : Array (Int × Int)} (h : RowC w W g dk) (hg : g < w.heap.size) (hI : CompInv d d.size k dk) {vs : List Value} (hk : k ≤ d.size) :
    w.grownBy (W.setCells g (k * 2) vs) (some g) ∧ Rd 2 encR (W.setCells g (k * 2) vs) (some ⟨g, 0, none⟩) (compactUpTo d d.size) := by
  obtain ⟨h1, h2, h3⟩ := h
  have hg2 := h1.trans (grown_sets g vs (k * 2) W)
  refine ⟨hg2, .inr ⟨g, 0, rfl, Nat.lt_of_lt_of_le hg hg2.size, fun j hj i u hu => ?_⟩⟩
  rw [hI.len] at hj
  have hlow := hI.low j hj
  have he : (compactUpTo d d.size)[j]! = dk[j]! := by
    rw [getElem!_pos _ _ (by rw [hI.len]; exact hj)]
    rw [List.getElem?_eq_getElem (by rw [hI.len]; exact hj)] at hlow
    injection hlow
  rw [he] at hu
  obtain ⟨c1, c2⟩ := h3 j (by rw [hI.size]; omega)
  have hi : i < 2 := by
    rcases Nat.lt_or_ge i 2 with h | h
    · exact h
    · rw [List.getElem?_eq_none (by rw [encR_len]; exact h)] at hu; cases hu
  rw [World.cell?_setCells_out _ _ _ _ _ (fun _ _ => .inl (by simp only []; omega))]
  have : i = 0 ∨ i = 1 := by omega
  rcases this with rfl | rfl
  · rw [show 0 + j * 2 + 0 = j * 2 by omega, c1]
    exact hu
  · rw [show 0 + j * 2 + 1 = j * 2 + 1 by omega, c2]
    exact hu
theorem RowC.rd {w W : World} {g : Nat} {d : Array (Int × Int)} (h : RowC w W g d) (hg : g < w.heap.size) (hall : ∀ j, j < d.size → keeps d j = true) : Rd 2 encR W (some ⟨g, 0, none⟩) (compactUpTo d d.size) := by
  obtain ⟨h1, h2, h3⟩ := h
  rw [compactUpTo_all d _ hall, range_map_get]
  refine .inr ⟨g, 0, rfl, Nat.lt_of_lt_of_le hg h1.size, fun j hj i u hu => ?_⟩
  rw [Array.length_toList] at hj
  obtain ⟨c1, c2⟩ := h3 j hj
  have he : d.toList[j]! = d[j]! := by simp [getElem!_def]
  rw [he] at hu
  have hi : i < 2 := by
    rcases Nat.lt_or_ge i 2 with h | h
    · exact h
    · rw [List.getElem?_eq_none (by rw [encR_len]; exact h)] at hu; cases hu
  have : i = 0 ∨ i = 1 := by omega
  rcases this with rfl | rfl
  · rw [show 0 + j * 2 + 0 = j * 2 by omega, c1]
    exact hu
  · rw [show 0 + j * 2 + 1 = j * 2 + 1 by omega, c2]
    exact hu
theorem Try.neq23 (x1 x2 y1 y2 : Int) (W : World) : (binOp .neq 23 (.agg #[.int .i64 x1, .int .i64 x2]) (.agg #[.int .i64 y1, .int .i64 y2])).run Try.prog W = .ok (.bool (!decide ((x1, x2) = (y1, y2)))) W := by
  have h := Try.eql23 x1 x2 y1 y2 W
  simp only [binOp] at h ⊢
  simp only [Sem.run_bind] at h ⊢
  generalize (Op.equal 23 _ _).run Try.prog W = r at h ⊢
  cases r <;> simp_all [Result.andThen]
set_option maxHeartbeats 8000000 in
set_option maxRecDepth 1000000 in
theorem con_compact (g cap : Nat) (xs : List (Int × Int)) (w : World) (hg : g < w.heap.size) (hC : RowC w w g xs.toArray) (hsz : xs.length ≤ 1000000) (hcap : xs.length ≤ cap) :
    Calls Try.prog 54 #[.slice (some ⟨g, 0, none⟩) xs.length cap] w (fun e w' => e = .returned (.slice (some ⟨g, 0, none⟩) (cmpL xs).length cap) ∧ Rd 2 encR w' (some ⟨g, 0, none⟩) (cmpL xs) ∧ w.grownBy w' (some g)) := by
  have hn : xs.length = xs.toArray.size := by simp
  unfold cmpL
  rw [hn] at hsz hcap ⊢
  generalize xs.toArray = d at *
  clear hn
  have HC := Lib.hid hC
  have heq := Try.eql23
  have hne := Try.neq23
  have hgd := Try.guard23
  have same : ∀ q, (∀ j, j < d.size → keeps d j = true) → (compactUpTo d d.size).length = d.size ∧ Rd 2 encR (w.drewN q) (some ⟨g, 0, none⟩) (compactUpTo d d.size) ∧ w.grownBy (w.drewN q) (some g) := by
    intro q hall
    refine ⟨by rw [compactUpTo_all d _ hall, range_map_get]; simp, (hC.drewN q).rd hg hall, (hC.drewN q).1⟩
  have HS := Lib.hid same
  clear same hC
  by_cases h2 : d.size < 2
  · go_enter Try.func54, Try.ntmps54
    go_wp2
    go_ret
    obtain ⟨e1, e2, e3⟩ := HS.out 0 (fun j hj => keeps_lt_one d j (by omega))
    exact ⟨by rw [e1]; rfl, e2, e3⟩
  · go_enter Try.func54, Try.ntmps54
    go_wp2
    go_loopw [3] (fun s3 wr => ∃ k q : Nat, 1 ≤ k ∧ k ≤ d.size ∧ s3 = .int .i64 k ∧ wr = w.drewN q ∧ ∀ j, j < k → keeps d j = true) (fun s3 _ => d.size - (intOf s3).toNat)
    case atStart => exact ⟨1, 0, Nat.le_refl _, by omega, rfl, rfl, keeps_lt_one d⟩
    case round =>
      obtain ⟨k, q, hk1, hk, rfl, rfl, hall⟩ := hrel
      by_cases hlt : k < d.size
      rotate_left
      · have hkd : d.size = k := by omega
        subst hkd
        have hge : ¬ ((d.size : Int) < (d.size : Int)) := by omega
        obtain ⟨e1, e2, e3⟩ := HS.out q hall
        clear hall
        go_wp2
        go_ret
        exact ⟨rfl, e2, e3⟩
      · obtain ⟨c1, c2⟩ := HC.out.2.2 k hlt
        obtain ⟨p1, p2⟩ := HC.out.2.2 (k - 1) (by omega)
        have A := Lib.hid hall
        have hli : (k : Int) < (d.size : Int) := by omega
        obtain ⟨k0, rfl⟩ : ∃ k0, k = k0 + 1 := ⟨k - 1, by omega⟩
        rw [Nat.add_sub_cancel] at p1 p2
        obtain ⟨x1, x2, hx⟩ : ∃ x1 x2, d[k0 + 1]! = (x1, x2) := ⟨_, _, rfl⟩
        obtain ⟨y1, y2, hy⟩ : ∃ y1 y2, d[k0]! = (y1, y2) := ⟨_, _, rfl⟩
        rw [hx] at c1 c2
        rw [hy] at p1 p2
        dsimp only at c1 c2 p1 p2
        have B := Lib.hid (And.intro hx hy)
        clear hx hy hall
        rw [show (((k0 + 1 : Nat)) : Int) = (k0 : Int) + 1 by omega] at *
        have hk00 : (0 : Int) ≤ (k0 : Int) + 1 := by omega
        by_cases hdup : (x1, x2) = (y1, y2)
        · have hneg := keeps_neg (d := d) (m := k0 + 1) (by omega) (by rw [Nat.add_sub_cancel, B.out.1, B.out.2, hdup])
          injection hdup with hd1 hd2
          subst hd1 hd2
          have HI0 := Lib.hid (CompInv.start A.out hneg)
          clear hneg
          go_wp2_with fail
          go_region
          go_wp2
          clear c1 c2 p1 p2
          go_loopw [3, 5] (fun s3 s5 wr => ∃ (kk m : Nat) (dk : Array (Int × Int)), s3 = .int .i64 kk ∧ s5 = .int .i64 ((m : Int) + 1) ∧ k0 + 1 + (m + 1) ≤ d.size ∧ Hid (RowC w wr g dk) ∧ Hid (CompInv d (k0 + 1 + (m + 1)) kk dk)) (fun _ s5 _ => d.size - (intOf s5).toNat)
          case atStart => exact ⟨k0 + 1, 0, d, by go_num, by go_num, by omega, Lib.hid (HC.out.drewN _), HI0⟩
          case round =>
            obtain ⟨kk, m, dk, rfl, rfl, hle, HR, HI⟩ := hrel
            have hkk := HI.out.lt
            have hds := HI.out.size
            by_cases hlt2 : k0 + 1 + (m + 1) < d.size
            · have hmi : (m : Int) + 1 < (d.size : Int) - ((k0 : Int) + 1) := by omega
              have hm0 : (0 : Int) ≤ (m : Int) + 1 := by omega
              have hmn : m + 1 < d.size - (k0 + 1) := by omega
              have hkd : kk < d.size := by omega
              obtain ⟨c1, c2⟩ := HR.out.2.2 (k0 + 1 + (m + 1)) (by omega)
              obtain ⟨p1, p2⟩ := HR.out.2.2 (k0 + 1 + m) (by omega)
              obtain ⟨o1, o2⟩ := HR.out.2.2 kk (by omega)
              have f1 := HR.out.2.1 (kk * 2)
              have f2 := HR.out.2.1 (kk * 2 + 1)
              rw [HI.out.high _ (by omega), show (k0 + 1 + (m + 1)) * 2 = (k0 + 1) * 2 + (m + 1) * 2 by omega] at c1 c2
              rw [HI.out.high _ (by omega), show (k0 + 1 + m) * 2 = (k0 + 1) * 2 + m * 2 by omega] at p1 p2
              obtain ⟨u1, u2, hu⟩ : ∃ x1 x2, d[k0 + 1 + (m + 1)]! = (x1, x2) := ⟨_, _, rfl⟩
              obtain ⟨v1, v2, hv⟩ : ∃ y1 y2, d[k0 + 1 + m]! = (y1, y2) := ⟨_, _, rfl⟩
              rw [hu] at c1 c2
              rw [hv] at p1 p2
              dsimp only at c1 c2 p1 p2
              have C := Lib.hid (And.intro hu hv)
              clear hu hv
              by_cases huv : (u1, u2) = (v1, v2)
              · have hneg := keeps_neg (d := d) (m := k0 + 1 + (m + 1)) (by omega) (by rw [show k0 + 1 + (m + 1) - 1 = k0 + 1 + m by omega, C.out.1, C.out.2, huv])
                have HI1 := Lib.hid (HI.out.skip hneg)
                clear hneg
                injection huv with hd1 hd2
                subst hd1 hd2
                go_wp2_with fail
                go_region
                go_wp2
                go_roundw
                case rel => exact ⟨kk, m + 1, dk, rfl, by go_num, by omega, Lib.hid HR.out.drew, HI1⟩
                case measure => simp [intOf]; omega
              · have hpos := keeps_pos (d := d) (m := k0 + 1 + (m + 1)) (by rw [show k0 + 1 + (m + 1) - 1 = k0 + 1 + m by omega, C.out.1, C.out.2]; exact huv)
                have HI1 := Lib.hid (HI.out.keep hlt2 hpos)
                rw [C.out.1] at HI1
                clear hpos
                go_wp2_with fail
                go_region
                go_wp2
                go_roundw
                case rel => exact ⟨kk + 1, m + 1, _, by go_num, by go_num, by omega, Lib.hid (HR.out.drew.set (by omega) u1 u2), HI1⟩
                case measure => simp [intOf]; omega
            · have hend : k0 + 1 + (m + 1) = d.size := by omega
              have hge : ¬ ((m : Int) + 1 < (d.size : Int) - ((k0 : Int) + 1)) := by omega
              have hmn : ¬ (m + 1 < d.size - (k0 + 1)) := by omega
              have hme : m + 1 = d.size - (k0 + 1) := by omega
              have hcl : ∃ vs : List Value, ∀ ty, (Builtin.clear_ #[39] ty #[.slice (some ⟨g, kk * 2, none⟩) (d.size - kk) (cap - kk)]).run Try.prog wr = .ok (.tuple #[]) (wr.setCells g (kk * 2) vs) := by
                obtain ⟨vs, _, hrun⟩ := run_clear_wide (P := Try.prog) wr 39 23 0 (.agg #[.int .i64 0, .int .i64 0]) (by kernel_rfl) (fun w => by kernel_rfl) (by intro v hv; simp [Value.cells] at hv; rw [hv]; rfl) g (kk * 2) (d.size - kk) (cap - kk) (by omega) (by decide) (fun j hj => by
                  have hj : j < (d.size - kk) * 2 := hj
                  obtain ⟨o1, o2⟩ := HR.out.2.2 (kk + j / 2) (by omega)
                  rcases Nat.mod_two_eq_zero_or_one j with h | h
                  · rw [show kk * 2 + j = (kk + j / 2) * 2 by omega, o1]; rfl
                  · rw [show kk * 2 + j = (kk + j / 2) * 2 + 1 by omega, o2]; rfl) (fun j hj => HR.out.2.1 _)
                exact ⟨vs, fun ty => hrun⟩
              obtain ⟨vs, hcl⟩ := hcl
              rw [hend] at HI
              have HE := Lib.hid (HR.out.done (vs := vs) hg HI.out (by omega))
              have HL := Lib.hid HI.out.len
              go_wp2
              go_ret
              exact ⟨by rw [HL.out]; rfl, HE.out.2, HE.out.1⟩
        · have hpos := keeps_pos (d := d) (m := k0 + 1) (by rw [Nat.add_sub_cancel, B.out.1, B.out.2]; exact hdup)
          have HP := Lib.hid hpos
          clear hpos
          go_wp2_with fail
          go_region
          go_wp2
          go_roundw
          case rel => exact ⟨k0 + 1 + 1, q + 1, by omega, by omega, by go_num, rfl, fun j hj => by
            by_cases e : j = k0 + 1
            · rw [e]; exact HP.out
            · exact A.out j (by omega)⟩
          case measure => simp [intOf]; omega
end Go.Proofs
/- Lists of lines: a row of the call's own whose elements are a number and a slice of points, which is only read. -/
set_option linter.unusedVariables false
set_option linter.unusedSimpArgs false
namespace Go.Proofs
open Go.RowKit Go.Proofs.Mp

abbrev Ln := Int × List Pt
def encLn (p : Int × Value) : List Value := [.int .i64 p.1, p.2]
theorem encLn_len (p : Int × Value) : (encLn p).length = 2 := rfl
/-- what a line's two cells tell: the slice of its points -/
def LnAt (w : World) (p : Int × Value) (l : Ln) (ok : Nat → Prop) : Prop := ∃ g cap, p = (l.1, .slice (some ⟨g, 0, none⟩) l.2.length cap) ∧ ok g ∧ g < w.heap.size ∧ Rd 2 encR w (some ⟨g, 0, none⟩) l.2
def LnR (w : World) (base : Nat) (vl : Value) (L : List Ln) : Prop :=
  ∃ vs : List (Int × Value), vs.length = L.length ∧ Own 41 2 encLn w base vl vs ∧ ∀ i, i < vs.length → LnAt w vs[i]! L[i]! (fun g => base ≤ g ∧ vl.ownBlock ≠ some g)
theorem LnR.nil (w : World) (base : Nat) : LnR w base (.slice none 0 0) [] := ⟨[], rfl, Own.nil w base, fun i hi => by simp at hi⟩
theorem LnR.len {w : World} {base : Nat} {vl : Value} {L : List Ln} (h : LnR w base vl L) : ∃ A c, vl = .slice A L.length c := by
  obtain ⟨vs, h1, h2, _⟩ := h
  rw [← h1]
  exact Own.slice h2
theorem Rd.grown {w w' : World} {g : Nat} {xs : List Pt} {row : Option Nat} (h : Rd 2 encR w (some ⟨g, 0, none⟩) xs) (hg : w.grownBy w' row) (hl : g < w.heap.size) (hne : row ≠ some g) : Rd 2 encR w' (some ⟨g, 0, none⟩) xs := by
  rcases h with h | ⟨b, off, he, hb, hc⟩
  · exact .inl h
  · injection he with he
    injection he with e1 e2
    subst e1 e2
    refine .inr ⟨g, 0, rfl, Nat.lt_of_lt_of_le hb hg.size, fun j hj i u hu => ?_⟩
    have := hc j hj i u hu
    unfold World.cell? at this ⊢
    rw [hg.block g hl (fun e => hne e.symm)]
    exact this
theorem LnAt.grown {w w' : World} {p : Int × Value} {l : Ln} {ok ok' : Nat → Prop} {row : Option Nat} (h : LnAt w p l ok) (hg : w.grownBy w' row) (hr : ∀ g, ok g → g < w.heap.size → row ≠ some g) (hok : ∀ g, ok g → g < w.heap.size → ok' g) : LnAt w' p l ok' := by
  obtain ⟨g, cap, g1, g2, g3, g4⟩ := h
  exact ⟨g, cap, g1, hok g g2 g3, Nat.lt_of_lt_of_le g3 hg.size, Rd.grown g4 hg g3 (hr g g2 g3)⟩
theorem LnR.kept {w w' : World} {base : Nat} {vl : Value} {L : List Ln} {row : Option Nat} (h : LnR w base vl L) (hg : w.grownBy w' row) (hr : ∀ j, row = some j → j < base) : LnR w' base vl L := by
  obtain ⟨vs, h1, h2, h3⟩ := h
  refine ⟨vs, h1, World.ownsRow.kept h2 hg ?_, fun i hi => (h3 i hi).grown hg (fun g ok hl e => ?_) (fun g ok _ => ok)⟩
  · rcases hb : vl.ownBlock with _ | j
    · exact .inl rfl
    · refine .inr fun e => ?_
      have := hr j e.symm
      have := (World.ownsRow.lt h2 j hb).1
      omega
  · have := hr g e
    omega
theorem LnR.below {w w' : World} {base : Nat} {vl : Value} {L : List Ln} (h : LnR w base vl L) (hb : Below w.heap.size w w') : LnR w' base vl L := h.kept (below_gr hb) (fun j e => by cases e)
theorem LnR.mono {w : World} {base b : Nat} {vl : Value} {L : List Ln} (h : LnR w base vl L) (hb : b ≤ base) : LnR w b vl L := by
  obtain ⟨vs, h1, h2, h3⟩ := h
  refine ⟨vs, h1, h2.mono hb, fun i hi => ?_⟩
  obtain ⟨g, cap, g1, g2, g3⟩ := h3 i hi
  exact ⟨g, cap, g1, ⟨by omega, g2.2⟩, g3⟩
theorem LnR.own {w : World} {base : Nat} {vl : Value} {L : List Ln} (h : LnR w base vl L) : ∀ j, vl.ownBlock = some j → base ≤ j ∧ j < w.heap.size := by
  obtain ⟨vs, _, h2, _⟩ := h
  exact World.ownsRow.lt h2
/-- a list of lines that is only read -/
def LnD (w : World) (v : Value) (L : List Ln) : Prop :=
  ∃ (A : Option Addr) (c : Nat) (vs : List (Int × Value)), v = .slice A L.length c ∧ vs.length = L.length ∧ Rd 2 encLn w A vs ∧ ∀ i, i < vs.length → LnAt w vs[i]! L[i]! (fun _ => True)
theorem LnR.read {w : World} {base : Nat} {vl : Value} {L : List Ln} (h : LnR w base vl L) : LnD w vl L := by
  obtain ⟨vs, h1, h2, h3⟩ := h
  obtain ⟨A, c, rfl⟩ := Own.slice h2
  refine ⟨A, c, vs, by rw [h1], h1, Own.rd encLn_len h2, fun i hi => ?_⟩
  obtain ⟨g, cap, g1, g2, g3⟩ := h3 i hi
  exact ⟨g, cap, g1, trivial, g3⟩
theorem LnD.below {w w' : World} {v : Value} {L : List Ln} (h : LnD w v L) (hb : Below w.heap.size w w') : LnD w' v L := by
  obtain ⟨A, c, vs, h1, h2, h3, h4⟩ := h
  exact ⟨A, c, vs, h1, h2, h3.below hb, fun i hi => (h4 i hi).grown (below_gr hb) (fun g _ _ e => by cases e) (fun _ _ _ => trivial)⟩
theorem getApp1 {α : Type} [Inhabited α] {a b : List α} {i : Nat} (h : i < a.length) : (a ++ b)[i]! = a[i]! := by
  simp [getElem!_def, List.getElem?_append_left h]
theorem getApp2 {α : Type} [Inhabited α] {a b : List α} {i : Nat} (h : a.length ≤ i) : (a ++ b)[i]! = b[i - a.length]! := by
  simp [getElem!_def, List.getElem?_append_right h]
/-- further lines -/
theorem LnR.more {w w' : World} {base : Nat} {vl vl' : Value} {L K : List Ln} {vs ks : List (Int × Value)} (h1 : vs.length = L.length) (h3 : ∀ i, i < vs.length → LnAt w vs[i]! L[i]! (fun g => base ≤ g ∧ vl.ownBlock ≠ some g))
    (k1 : ks.length = K.length) (k3 : ∀ i, i < ks.length → LnAt w ks[i]! K[i]! (fun g => base ≤ g ∧ vl.ownBlock ≠ some g))
    (ho : Own 41 2 encLn w' base vl' (vs ++ ks)) (hg : w.grownBy w' vl.ownBlock) (hl : vl'.ownBlock = vl.ownBlock ∨ ∃ j, vl'.ownBlock = some j ∧ w.heap.size ≤ j) : LnR w' base vl' (L ++ K) := by
  have hn : ∀ q, q < w.heap.size → vl.ownBlock ≠ some q → vl'.ownBlock ≠ some q := by
    intro q hq hne e
    rcases hl with hl | ⟨j, hl, hj⟩
    · exact hne (hl ▸ e)
    · rw [hl] at e
      injection e with e
      omega
  refine ⟨_, by simp [h1, k1], ho, fun i hi => ?_⟩
  rw [List.length_append] at hi
  by_cases hlt : i < vs.length
  · rw [getApp1 hlt, getApp1 (by omega)]
    exact (h3 i hlt).grown hg (fun g ok _ => ok.2) (fun g ok hl => ⟨ok.1, hn g hl ok.2⟩)
  · rw [getApp2 (by omega), getApp2 (by omega), ← h1]
    exact (k3 _ (by omega)).grown hg (fun g ok _ => ok.2) (fun g ok hl => ⟨ok.1, hn g hl ok.2⟩)
theorem Try.infoP : (Try.prog.info? 23).map (fun i => (i.zero, i.size, i.bytes)) = some (some (.agg #[.int .i64 0, .int .i64 0]), 2, 16) := by kernel_rfl
theorem Try.appP {w : World} {base : Nat} {v : Value} {xs : List Pt} {ops : Array Oper} {rest : List Oper} {o : Oper} {a : Act} {Q : Exit → Act → World → Prop}
    (hown : OwnR 23 w base v xs) (p : Pt) (hgd : o.guard = none) (s x : Operand)
    (ho : o.op = .call { callee := .builtin .append, args := #[s, x], argTypes := #[39, 39] }) (hs : a.eval s = v) (hx : a.eval x = .slice (some ⟨w.heap.size, 0, none⟩) 1 1)
    (hN : xs.length + 1 ≤ 1000000000000) (hbase : base ≤ w.heap.size)
    (h : ∀ v' w', OwnR 23 w' base v' (xs ++ [p]) → Below base w w' → wpList Try.prog ops Q rest (a.put o.dst v') w') :
    wpList Try.prog ops Q (o :: rest) a (w.alloc (.cells #[.int .i64 p.1, .int .i64 p.2] 23)) := by
  obtain ⟨i0, hi0, hz0, hz1, hz2⟩ := Mp.info_parts Try.infoP
  exact Own.append1 39 i0 (.agg #[.int .i64 0, .int .i64 0]) 16 Try.underlying39 hi0 hz0 hz1 hz2 rfl (by decide) (by decide) encR_len encR_one hgd s x ho hown hs p hx (by omega) hbase h
theorem Try.infoLn : (Try.prog.info? 41).map (fun i => (i.zero, i.size, i.bytes)) = some (some (.agg #[.int .i64 0, .slice none 0 0]), 2, 32) := by kernel_rfl
theorem Try.appLn {w : World} {base : Nat} {v : Value} {L : List Ln} {ops : Array Oper} {rest : List Oper} {o : Oper} {a : Act} {Q : Exit → Act → World → Prop}
    (hown : LnR w base v L) (lv : Int) (pts : List Pt) (g cap : Nat) (hl : LnAt w (lv, .slice (some ⟨g, 0, none⟩) pts.length cap) (lv, pts) (fun g => base ≤ g ∧ v.ownBlock ≠ some g)) (hgd : o.guard = none) (s x : Operand)
    (ho : o.op = .call { callee := .builtin .append, args := #[s, x], argTypes := #[32, 32] }) (hs : a.eval s = v) (hx : a.eval x = .slice (some ⟨w.heap.size, 0, none⟩) 1 1)
    (hN : L.length + 1 ≤ 1000000000) (hbase : base ≤ w.heap.size)
    (h : ∀ v' w', LnR w' base v' (L ++ [(lv, pts)]) → Below base w w' → wpList Try.prog ops Q rest (a.put o.dst v') w') :
    wpList Try.prog ops Q (o :: rest) a (w.alloc (.cells #[.int .i64 lv, .slice (some ⟨g, 0, none⟩) pts.length cap] 41)) := by
  obtain ⟨vs, h1, h2, h3⟩ := hown
  obtain ⟨i0, hi, hz0, hz1, hz2⟩ := Mp.info_parts Try.infoLn
  exact OwnA.append1 (av := fun _ => False) (enc := encLn) 32 i0 (.agg #[.int .i64 0, .slice none 0 0]) 32 Try.underlying32 hi hz0 hz1 hz2 rfl (by decide) (by decide) encLn_len (lv, .slice (some ⟨g, 0, none⟩) pts.length cap) (fun u hu => by
      simp only [encLn, List.mem_cons, List.not_mem_nil, or_false] at hu
      rcases hu with rfl | rfl <;> rfl) hgd s x ho ⟨h2, fun _ _ h => h⟩ (fun _ h => h.elim) hs hx (by omega) hbase
    (fun v' w' ho' hg' hl' => h v' w' (LnR.more (K := [(lv, pts)]) h1 h3 rfl (fun i hi => by
      have : i = 0 := by simpa using hi
      subst this
      exact hl) ho'.1 hg' hl') ((Below.refl _ _).grown hg' hbase (fun j hj => (World.ownsRow.lt h2 j hj).1)))
end Go.Proofs
/- lines. -/
set_option linter.unusedVariables false
set_option linter.unusedSimpArgs false
namespace Go.Proofs
open Go.RowKit Go.Proofs.Mp Go.Lib

theorem walkF_len (S : List (Nat × Nat)) (e : Nat) : ∀ n c, (walkF S e n c).length ≤ n
  | 0, c => by simp [walkF]
  | n + 1, c => by
    unfold walkF
    split
    · simp
    · split
      · simp
      · rw [List.length_cons]
        have := walkF_len S e n
        exact Nat.succ_le_succ (this _)
theorem chain_len (S : List (Nat × Nat)) (e : Nat) : (chain S e).length ≤ S.length + 2 := by
  unfold chain
  rw [List.length_cons]
  have := walkF_len S e (S.length + 1) e
  omega
theorem rep_dom {S : List (Nat × Nat)} (hS : Inj S) {e : Nat} (h : repB S e = true) : dom S e = true := by
  unfold repB at h
  rcases Bool.or_eq_true _ _ ▸ h with h | h
  · exact (start_split.1 h).1
  · exact ((cycB_iff hS).1 h).1.dom
/-- a chain's edges are crossed -/
theorem chain_crs {ab : Nat → Bool} {W H N : Nat} (hW : 1 ≤ W) {c : List Nat} (hc : c ∈ chainsL (stepsL ab W H) N) {n : Nat} (hn : n ∈ c) : crsB ab W H n = true := by
  have hS : Inj (stepsL ab W H) := steps_inj hW
  obtain ⟨e, he, rfl⟩ := List.mem_map.1 hc
  have hd := rep_dom hS (List.mem_filter.1 he).2
  rcases reach_ran hS ((chain_mem hS).1 hn) with rfl | h
  · obtain ⟨k, hk⟩ := Option.isSome_iff_exists.1 hd
    exact (steps_crs ((nx_mem hS).1 hk)).1
  · unfold ran at h
    obtain ⟨p, hp, hq⟩ := List.any_eq_true.1 h
    have := (steps_crs hp).2
    rwa [beq_iff_eq.1 hq] at this
def lineOf (f : Nat → Pt) (lv : Int) (c : List Nat) : List Ln := if 1 < (cmpL (c.map f)).length then [(lv, cmpL (c.map f))] else []
def linesOf (f : Nat → Pt) (lv : Int) (cs : List (List Nat)) : List Ln := cs.flatMap (lineOf f lv)
/-- the lines of a level -/
def linesL (t : Ht) (W H : Nat) (level : Int) : List Ln := linesOf (ptE t W level) level (chainsL (stepsL (abv t level) W H) (3 * W * H))
theorem linesOf_succ (f : Nat → Pt) (lv : Int) (cs : List (List Nat)) (i : Nat) (h : i < cs.length) : linesOf f lv (cs.take (i + 1)) = linesOf f lv (cs.take i) ++ lineOf f lv cs[i]! := by
  unfold linesOf
  rw [List.take_succ_eq_append_getElem h, List.flatMap_append, getElem!_pos cs i h]
  simp
theorem linesOf_len (f : Nat → Pt) (lv : Int) : ∀ cs : List (List Nat), (linesOf f lv cs).length ≤ cs.length
  | [] => by simp [linesOf]
  | c :: cs => by
    have := linesOf_len f lv cs
    unfold linesOf at this ⊢
    rw [List.flatMap_cons, List.length_append, List.length_cons]
    have : (lineOf f lv c).length ≤ 1 := by unfold lineOf; split <;> simp
    omega
/-- the call has returned a list of lines of its own -/
def RetLn (w : World) (L : List Ln) (e : Ending) (w' : World) : Prop := ∃ v, e = .returned v ∧ LnR w' w.heap.size v L ∧ Below w.heap.size w w'
theorem RowC.of_own {w : World} {base g cap n : Nat} {xs : List Pt} (h : OwnR 23 w base (.slice (some ⟨g, 0, none⟩) n cap) xs) : n = xs.length ∧ base ≤ g ∧ g < w.heap.size ∧ xs.length ≤ cap ∧ RowC w w g xs.toArray := by
  have h0 := h
  rcases h.2 with ⟨e, _⟩ | ⟨g', cap', cur, e, hb, hh, hnc, _⟩
  · cases e
  · injection e with e1 e2 e3
    injection e1 with e1
    injection e1 with e1 _ _
    subst e1 e2 e3
    refine ⟨rfl, hb, (Array.getElem?_eq_some_iff.1 hh).1, hnc, World.grownBy.refl _ _, fun j => frozen_of_row w g j _ 23 hh, fun j hj => ?_⟩
    have hj : j < xs.length := by simpa using hj
    rcases Own.rd Mp.encR_len h0 with rfl | ⟨b, off, e, _, hc⟩
    · simp at hj
    · injection e with e
      injection e with e1 e2 _
      subst e1 e2
      have k1 := hc j hj 0 (.int .i64 xs[j]!.1) rfl
      have k2 := hc j hj 1 (.int .i64 xs[j]!.2) rfl
      have ea : xs.toArray[j]! = xs[j]! := by simp
      rw [show 0 + j * 2 + 0 = j * 2 by omega] at k1
      rw [show 0 + j * 2 + 1 = j * 2 + 1 by omega] at k2
      rw [ea]
      exact ⟨k1, k2⟩
theorem own_some {w : World} {base : Nat} {v : Value} {xs : List Pt} (h : OwnR 23 w base v xs) (h0 : xs ≠ []) : ∃ g cap, v = .slice (some ⟨g, 0, none⟩) xs.length cap := by
  rcases h.2 with ⟨rfl, hn⟩ | ⟨g, cap, cur, rfl, hb, hh, hnc, _⟩
  · exact absurd (List.length_eq_zero_iff.1 hn) h0
  · exact ⟨g, cap, rfl⟩

set_option maxRecDepth 100000 in
set_option maxHeartbeats 16000000 in
theorem con_lines (t : Ht) (W H : Nat) (level : Int) (w : World) (g : Grd t W H) (hR : RdI w t.a t.v) :
    Calls Try.prog 28 #[aggH t, .int .i64 level] w (RetLn w (linesL t W H level)) := by
  obtain ⟨a1, a2, a3, a4, a5, a6, a7, a8, a9, a10, a11⟩ := g.all
  have cC := Lib.hid fun (W' : World) (hb : Below w.heap.size w W') => con_chains t W H level W' g (hR.below hb)
  have cX := Lib.hid fun (e : Nat) (he : crsB (abv t level) W H e = true) (W' : World) (hb : Below w.heap.size w W') => (show Calls Try.prog 53 #[aggH t, .int .i64 level, .int .i64 e] W' (RetV W' (.agg #[.int .i64 (ptE t W level e).1, .int .i64 (ptE t W level e).2])) from con_crossing t W H level e W' g he (hR.below hb))
  have hN3 : 3 * W * H ≤ 12288 := by have : 3 * W * H = 3 * (W * H) := Nat.mul_assoc 3 W H
                                     omega
  have hCL : (chainsL (stepsL (abv t level) W H) (3 * W * H)).length ≤ 12288 := by
    unfold chainsL
    rw [List.length_map]
    refine Nat.le_trans (List.length_filter_le _ _) ?_
    rw [List.length_range]
    exact hN3
  have HCE := Lib.hid (fun (c : List Nat) (hc : c ∈ chainsL (stepsL (abv t level) W H) (3 * W * H)) => (by
    refine ⟨?_, fun n hn => chain_crs (by omega) hc hn, ?_⟩
    · obtain ⟨e, _, rfl⟩ := List.mem_map.1 hc
      have := chain_len (stepsL (abv t level) W H) e
      have := (steps_small g (abv t level)).1
      omega
    · obtain ⟨e, _, rfl⟩ := List.mem_map.1 hc
      exact chain_ne : c.length ≤ 20000 ∧ (∀ n ∈ c, crsB (abv t level) W H n = true) ∧ c ≠ []))
  unfold linesL
  clear g hR a5 a6 a7 a8 a9 a10 a11
  generalize chainsL (stepsL (abv t level) W H) (3 * W * H) = CS at *
  generalize crsB (abv t level) W H = cr at *
  generalize ptE t W level = f at *
  have hrow0 := RowH.new w t
  have hb0 : Below w.heap.size w (w.alloc (.cells (celH t) 26)) := bw1 _ _
  have hs0 : (w.alloc (.cells (celH t) 26)).heap.size = w.heap.size + 1 := by simp
  obtain ⟨x, y, tw, th, st, A, cc, v⟩ := t
  unfold aggH celH at *
  dsimp only at *
  obtain ⟨r0, r1, r2, r3, r4, r5⟩ := hrow0.cells
  dsimp only at r0 r1 r2 r3 r4 r5
  go_enter Try.func28, Try.ntmps28
  go_upto_region 1 with fail
  generalize (w.alloc (.cells #[.int .i64 x, .int .i64 y, .int .i64 tw, .int .i64 th, .int .i64 st, .slice A v.length cc] 26)) = wA at *
  go_wp2_with fail
  refine (cC.out _ hb0).mono ?_
  rintro e w1 ⟨vc, rfl, ⟨AC, capC, vs, rfl, hvl, hRd, hvs⟩, hb1⟩
  have hs1 := hb1.size
  have HB1 := Lib.hid (hb0.trans (hb1.mono (by omega)))
  have hrow1 := hrow0.below hb1
  rw [List.length_map] at hvl ⊢
  have HV := Lib.hid (fun i (hi : i < CS.length) => (by
    obtain ⟨A', c', h1, h2⟩ := hvs i (by omega)
    have e : (CS.map ci)[i]! = ci CS[i]! := by rw [getElem!_pos _ i (by simpa using hi), getElem!_pos CS i hi]; simp
    rw [e, ci_len] at h1
    rw [e] at h2
    exact ⟨A', c', h1, h2⟩ : ∃ A' c', vs[i]! = .slice A' CS[i]!.length c' ∧ RdI w1 A' (ci CS[i]!)))
  clear hvs r0 r1 r2 r3 r4 r5 hrow0 cC hb0 hb1
  go_wp2_with fail
  go_loopw [4, 14] (fun v4 i wr => ∃ k : Nat, k ≤ CS.length ∧ i = .int .i64 k ∧ Hid (LnR wr w1.heap.size v4 (linesOf f level (CS.take k))) ∧ Below w1.heap.size w1 wr) (fun _ i _ => CS.length - (intOf i).toNat)
  case atStart => exact ⟨0, by omega, rfl, Lib.hid (LnR.nil _ _), Below.refl _ _⟩
  case round =>
    obtain ⟨k, hk, rfl, hL, hbr⟩ := hrel
    by_cases hlt : k < CS.length
    rotate_left
    · have hkn : CS.length = k := by omega
      subst hkn
      have hge : ¬ ((CS.length : Int) < (CS.length : Int)) := by omega
      rw [List.take_length] at hL
      clear hRd hrow1
      go_wp2
      go_ret
      exact ⟨_, rfl, hL.out.mono (by omega), HB1.out.trans (hbr.mono (by omega))⟩
    · have hli : (k : Int) < (CS.length : Int) := by omega
      have hsr := hbr.size
      have HBR := Lib.hid (HB1.out.trans (hbr.mono (by omega)))
      obtain ⟨b, off, rfl, hbl, hcell⟩ := Rd.get hRd hbr (show k < vs.length by omega)
      have c1 := hcell k (by omega) 0 vs[k]! rfl
      rw [show off + k * 1 + 0 = off + k by omega] at c1
      obtain ⟨A', c', hv1, hR1⟩ := HV.out k hlt
      rw [hv1] at c1
      obtain ⟨hcl, hcc, hcn⟩ := HCE.out CS[k]! (by rw [getElem!_pos CS k hlt]; exact List.getElem_mem hlt)
      have HLS := Lib.hid (linesOf_succ f level CS k hlt)
      generalize CS[k]! = c at *
      clear hcell hRd hv1
      have HRI := Lib.hid (hR1.below hbr)
      clear hR1
      go_wp2_with fail
      generalize wr = w2 at *
      have hcl0 : (ci c).length = c.length := ci_len c
      obtain ⟨b2, off2, rfl, hbl2, hcell2⟩ := Rd.at_ HRI.out (j := 0) (by rw [hcl0]; exact List.length_pos_iff.2 hcn)
      rw [hcl0] at hcell2
      have HC2 := Lib.hid (fun (W' : World) (hb : Below w2.heap.size w2 W') (j : Nat) (hj : j < c.length) => (show W'.cell? ⟨b2, off2 + j, none⟩ = some (.int .i64 (c[j]! : Nat)) from by
        have := hcell2 j hj 0 (.int .i64 (ci c)[j]!) rfl
        rw [show off2 + j * 1 + 0 = off2 + j by omega] at this
        rw [hb.cell (p := ⟨b2, off2 + j, none⟩) hbl2, this]
        congr 2
        unfold ci
        rw [getElem!_pos _ j (by simpa using hj), getElem!_pos c j hj]
        simp))
      clear hcell2 HRI c1
      have hrow2 := hrow1.below hbr
      go_loopw [7, 20] (fun v7 i wx => ∃ j : Nat, j ≤ c.length ∧ i = .int .i64 j ∧ Hid (OwnR 23 wx w2.heap.size v7 ((c.take j).map f)) ∧ Below w2.heap.size w2 wx) (fun _ i _ => c.length - (intOf i).toNat)
      case atStart => exact ⟨0, by omega, rfl, Lib.hid (Own.nil _ _), Below.refl _ _⟩
      case round =>
        obtain ⟨j, hj, rfl, hO, hbx⟩ := hrel
        by_cases hltj : j < c.length
        rotate_left
        · have hjn : c.length = j := by omega
          subst hjn
          have hge : ¬ ((c.length : Int) < (c.length : Int)) := by omega
          rw [List.take_length] at hO
          obtain ⟨gp, capp, rfl⟩ := own_some hO.out (by simpa using hcn)
          obtain ⟨k1, k2, k3, k4, k5⟩ := RowC.of_own hO.out
          have hPl : (c.map f).length ≤ 1000000 := by rw [List.length_map]; omega
          have HLO := Lib.hid (show lineOf f level c = if 1 < (cmpL (c.map f)).length then [(level, cmpL (c.map f))] else [] from rfl)
          rw [HLO.out] at HLS
          clear HLO
          generalize c.map f = P at *
          have cK := Lib.hid (con_compact gp capp P wr k3 k5 hPl k4)
          have HPL := Lib.hid hPl
          clear hO hrow1 hrow2 k1 k5 hPl k4
          go_wp2_with fail
          refine cK.out.mono ?_
          rintro e w3 ⟨rfl, hRp, hgp⟩
          have hs3 := hgp.size
          have hsx := hbx.size
          have hb3 : Below w2.heap.size w2 w3 := hbx.grown hgp (by omega) (fun q e => by injection e with e; omega)
          have hL3 := Lib.hid (hL.out.below hb3)
          have hbr3 := hbr.trans (hb3.mono (by omega))
          have HRp := Lib.hid hRp
          clear cK hRp hgp hb3
          have hn1 : (cmpL P).length ≤ 1000000 := by
            have h1 := List.length_filter_le (keeps P.toArray) (List.range P.toArray.size)
            unfold cmpL compactUpTo
            rw [List.length_map]
            rw [List.length_range] at h1
            exact Nat.le_trans h1 (by simpa using HPL.out)
          have hgb : ∀ j, u4.ownBlock = some j → j < w2.heap.size := fun j hj => (hL.out.own j hj).2
          have hAt := Lib.hid (show LnAt w3 (level, .slice (some ⟨gp, 0, none⟩) (cmpL P).length capp) (level, cmpL P) (fun g => w1.heap.size ≤ g ∧ u4.ownBlock ≠ some g) from
            ⟨gp, capp, rfl, ⟨by omega, fun e => by have := hgb _ e; omega⟩, by omega, HRp.out⟩)
          have hLn : (linesOf f level (CS.take k)).length + 1 ≤ 1000000000 := by
            have := linesOf_len f level (CS.take k)
            have := List.length_take_le k CS
            omega
          have hbs : w1.heap.size ≤ w3.heap.size := by omega
          clear hgb HRp
          generalize cmpL P = C at *
          generalize linesOf f level (CS.take k) = LL at *
          by_cases hC : 1 < C.length
          · have hCi : (1 : Int) < (C.length : Int) := by omega
            rw [if_pos hC] at HLS
            go_wp2_with (at_builtin; refine Try.appLn hL3.out level C gp capp hAt.out rfl _ _ rfl rfl rfl hLn hbs ?_; intro v9 w9 hL9 hb9)
            go_roundw
            case rel => exact ⟨k + 1, by omega, by go_num, Lib.hid (by rw [HLS.out]; exact hL9), hbr3.trans hb9⟩
            case measure => simp [intOf]; omega
          · have hCi : ¬ ((1 : Int) < (C.length : Int)) := by omega
            rw [if_neg hC, List.append_nil] at HLS
            go_wp2
            go_roundw
            case rel => exact ⟨k + 1, by omega, by go_num, Lib.hid (by rw [HLS.out]; exact hL3.out), hbr3⟩
            case measure => simp [intOf]; omega
        · have hlij : (j : Int) < (c.length : Int) := by omega
          have q1 := HC2.out wr hbx j hltj
          have hcr := hcc c[j]! (by rw [getElem!_pos c j hltj]; exact List.getElem_mem hltj)
          have cXj := Lib.hid (cX.out c[j]! hcr wr (HBR.out.trans (hbx.mono (by have := HBR.out.size; omega))))
          have HT := Lib.hid (show (c.take (j + 1)).map f = (c.take j).map f ++ [f c[j]!] by rw [List.take_succ_eq_append_getElem hltj, List.map_append, getElem!_pos c j hltj]; rfl)
          have hrow3 := hrow2.below hbx
          obtain ⟨r0, r1, r2, r3, r4, r5⟩ := hrow3.cells
          dsimp only at r0 r1 r2 r3 r4 r5
          generalize f c[j]! = p at *
          generalize c[j]! = ej at *
          have hsz : w2.heap.size ≤ wr.heap.size := hbx.size
          have hj1 : ((c.take j).map f).length + 1 ≤ 1000000000000 := by
            rw [List.length_map]
            have := List.length_take_le j c
            omega
          clear hcr hrow3
          go_wp2_with fail
          refine cXj.out.mono ?_
          rintro e w3 ⟨rfl, hb3⟩
          have hO3 := hO.out.below hb3
          have HB3 := Lib.hid (hbx.trans (hb3.mono hsz))
          have hsz3 : w2.heap.size ≤ w3.heap.size := Nat.le_trans hsz hb3.size
          clear r0 r1 r2 r3 r4 r5 q1 hb3 cXj
          go_wp2_with (at_builtin; refine Try.appP hO3 p rfl _ _ rfl rfl rfl hj1 hsz3 ?_; intro v9 w9 hO9 hb9)
          go_roundw
          case rel => exact ⟨j + 1, by omega, by go_num, Lib.hid (by rw [HT.out]; exact hO9), HB3.out.trans hb9⟩
          case measure => simp [intOf]; omega
end Go.Proofs
/- Lines, Crossed. -/
set_option linter.unusedVariables false
set_option linter.unusedSimpArgs false
namespace Go.Proofs
open Go.RowKit Go.Proofs.Mp Go.Lib

/-- the lines that Lines returns -/
def linesT (t : Ht) (level : Int) : List Ln := if chkH t = 0 then linesL t t.w.toNat t.h.toNat level else []
def RetLE (w : World) (L : List Ln) (c : Int) (e : Ending) (w' : World) : Prop := ∃ v, e = .returned (.tuple #[v, .int .i64 c]) ∧ LnR w' w.heap.size v L ∧ Below w.heap.size w w'
theorem Grd.of {t : Ht} (h : chkH t = 0) : Grd t t.w.toNat t.h.toNat := by
  obtain ⟨_, h1, _, h3, _, _⟩ := chkH_zero h
  exact ⟨h, by omega, by omega⟩

set_option maxHeartbeats 4000000 in
theorem con_Lines (t : Ht) (level : Int) (w : World) (hmax : t.v.length ≤ 1000000000000) (hR : RdI w t.a t.v) :
    Calls Try.prog 14 #[aggH t, .int .i64 level] w (RetLE w (linesT t level) (chkH t)) := by
  have hb0 : Below w.heap.size w (w.alloc (.cells (celH t) 26)) := bw1 _ _
  have hs0 : (w.alloc (.cells (celH t) 26)).heap.size = w.heap.size + 1 := by simp
  have hrow0 := RowH.new w t
  have cC := Lib.hid (ter_check t (w.alloc (.cells (celH t) 26)) hmax (hR.below hb0))
  have cL := Lib.hid fun (hc : chkH t = 0) (W' : World) (hb : Below w.heap.size w W') => con_lines t _ _ level W' (Grd.of hc) (hR.below hb)
  have HL := Lib.hid (show linesT t level = if chkH t = 0 then linesL t t.w.toNat t.h.toNat level else [] from rfl)
  clear hR
  generalize linesT t level = L at *
  generalize linesL t t.w.toNat t.h.toNat level = K at *
  generalize chkH t = r at *
  obtain ⟨x, y, tw, th, st, A, cc, v⟩ := t
  unfold aggH celH at *
  dsimp only at *
  obtain ⟨r0, r1, r2, r3, r4, r5⟩ := hrow0.cells
  dsimp only at r0 r1 r2 r3 r4 r5
  go_enter Try.func14, Try.ntmps14
  go_upto_region 1 with fail
  generalize (w.alloc (.cells #[.int .i64 x, .int .i64 y, .int .i64 tw, .int .i64 th, .int .i64 st, .slice A v.length cc] 26)) = wA at *
  go_wp2_with fail
  refine cC.out.mono ?_
  rintro e w1 ⟨rfl, hb1⟩
  have HB1 := Lib.hid (hb0.trans (hb1.mono (by omega)))
  have hrow1 := hrow0.below hb1
  clear r0 r1 r2 r3 r4 r5
  obtain ⟨r0, r1, r2, r3, r4, r5⟩ := hrow1.cells
  dsimp only at r0 r1 r2 r3 r4 r5
  by_cases h0 : r = 0
  · have cL0 := Lib.hid (cL.out h0)
    clear cL
    subst h0
    rw [if_pos rfl] at HL
    go_wp2_with fail
    refine (cL0.out w1 HB1.out).mono ?_
    rintro e w2 ⟨v2, rfl, hv2, hb2⟩
    have hs1 := HB1.out.size
    have H2 := Lib.hid hv2
    have HB2 := Lib.hid (HB1.out.trans (hb2.mono hs1))
    clear hv2 hb2 hrow0 hrow1 hb0 hb1 cC cL0 r0 r1 r2 r3 r4 r5
    go_wp2
    go_ret2
    exact ⟨_, rfl, by rw [HL.out]; exact H2.out.mono hs1, HB2.out⟩
  · rw [if_neg h0] at HL
    clear hrow0 hrow1 hb0 hb1 cC cL r0 r1 r2 r3 r4 r5
    go_wp2
    go_ret2
    exact ⟨_, rfl, by rw [HL.out]; exact LnR.nil _ _, HB1.out⟩
end Go.Proofs
