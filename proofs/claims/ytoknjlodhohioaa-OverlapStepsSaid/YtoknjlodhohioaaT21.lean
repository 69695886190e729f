import Derived.Test.YtoknjlodhohioaaT20
set_option linter.unusedVariables false
set_option linter.unusedSimpArgs false
namespace Go.Proofs
open Go.RowKit Go.Proofs.Mp Go.Proofs.Uf

/-- the value v is a slice of slices that reads as gs -/
def GrpS (w : World) (v : Value) (gs : List (List Int)) : Prop :=
  ∃ A c ls, v = .slice A gs.length c ∧ ls.map (fun s : Option Addr × Nat × List Int => s.2.2) = gs ∧ RdS w A ls ∧ ∀ s ∈ ls, RdI w s.1 s.2.2
theorem GrpS.below {w w' : World} {v : Value} {gs : List (List Int)} (h : GrpS w v gs) (hb : Below w.heap.size w w') : GrpS w' v gs := by
  obtain ⟨A, c, ls, h1, h2, h3, h4⟩ := h
  exact ⟨A, c, ls, h1, h2, Rd.below h3 hb, fun s hs => (h4 s hs).below hb⟩
theorem GrpS.get {w wr : World} {A : Option Addr} {n c : Nat} {gs : List (List Int)} (h : GrpS w (.slice A n c) gs) (hb : Below w.heap.size w wr) {k : Nat} (hk : k < gs.length) :
    ∃ b off ni ci, A = some ⟨b, off, none⟩ ∧ b < w.heap.size ∧ wr.cell? ⟨b, off + k, none⟩ = some (.slice ni gs[k]!.length ci) ∧ RdI wr ni gs[k]! := by
  obtain ⟨A', c', ls, he, h2, h3, h4⟩ := h
  injection he with e1 e2 e3
  subst e1
  subst h2
  rw [List.length_map] at hk
  obtain ⟨b, off, hA, hlt, hc⟩ := RdS.get h3 hb hk
  have e : (ls.map fun s : Option Addr × Nat × List Int => s.2.2)[k]! = ls[k]!.2.2 := by
    rw [getElem!_pos _ k (by simpa using hk), getElem!_pos ls k hk, List.getElem_map]
  rw [e]
  exact ⟨b, off, ls[k]!.1, ls[k]!.2.1, hA, hlt, hc, (h4 _ (by rw [getElem!_pos ls k hk]; exact List.getElem_mem hk)).below hb⟩

theorem Mp.Nest.grpS {te ti : TypeId} {w : World} {base : Nat} {av : Nat → Prop} {v : Value} {gs : List (List Int)} (h : Nest te ti w base av v gs) : GrpS w v gs := by
  obtain ⟨vs, h1, h2, h3⟩ := h
  obtain ⟨A, c, rfl⟩ := Own.slice h2.1
  have hR : Rd 1 encV w A vs := Own.rd encV_len h2.1
  have key : ∀ i, i < vs.length → ∃ Ai ci, vs[i]! = .slice Ai gs[i]!.length ci ∧ RdI w Ai gs[i]! := fun i hi => by
    obtain ⟨Ai, ci, e⟩ := Own.slice (h3 i hi).1
    refine ⟨Ai, ci, e, ?_⟩
    have h4 := (h3 i hi).1
    rw [e] at h4
    exact Own.rd encI_len h4
  obtain ⟨f, hf⟩ : ∃ f : Nat → Option Addr × Nat, ∀ i, i < vs.length → vs[i]! = .slice (f i).1 gs[i]!.length (f i).2 ∧ RdI w (f i).1 gs[i]! := by
    refine ⟨fun i => if h : i < vs.length then ((key i h).choose, (key i h).choose_spec.choose) else (Option.none, 0), fun i h => ?_⟩
    simp only [h, dif_pos]
    exact (key i h).choose_spec.choose_spec
  refine ⟨A, c, (List.range gs.length).map fun i => ((f i).1, (f i).2, gs[i]!), by rw [h1], ?_, ?_, ?_⟩
  · rw [List.map_map]
    refine List.ext_getElem (by simp) fun i h5 h6 => ?_
    simp [h6]
  · rcases hR with h0 | ⟨b, off, hA, hb, hc⟩
    · subst h0
      refine .inl ?_
      have : gs.length = 0 := by simpa using h1.symm
      simp [this]
    · refine .inr ⟨b, off, hA, hb, fun j hj i u hu => ?_⟩
      have hj' : j < gs.length := by simpa using hj
      have e : ((List.range gs.length).map fun i => ((f i).1, (f i).2, gs[i]!))[j]! = ((f j).1, (f j).2, gs[j]!) := by
        rw [getElem!_pos _ j (by simpa using hj')]
        simp
      rw [e] at hu
      refine hc j (by omega) i u ?_
      rw [(hf j (by omega)).1]
      exact hu
  · intro s hs
    obtain ⟨i, hi, rfl⟩ := List.mem_map.1 hs
    exact (hf i (by rw [h1]; exact List.mem_range.1 hi)).2

set_option maxHeartbeats 2000000 in
theorem same_groups (u v : Value) (xs ys : List (List Int)) (w : World) (h1 : xs.length ≤ 1000000) (h2 : ys.length ≤ 1000000) (h3 : ∀ g ∈ xs, g.length ≤ 1000000) (h4 : ∀ g ∈ ys, g.length ≤ 1000000) (hA : GrpS w u xs) (hB : GrpS w v ys) :
    Calls Try.prog 16 #[u, v] w (RetV w (.bool (decide (xs = ys)))) := by
  have hA0 := hA
  have hB0 := hB
  obtain ⟨A, c, _, rfl, _, _, _⟩ := hA0
  obtain ⟨B, d, _, rfl, _, _, _⟩ := hB0
  by_cases hl : xs.length = ys.length
  · have hlb : ((xs.length : Int) != (ys.length : Int)) = false := by simp [hl]
    have HL := Lib.hid hl
    clear hl
    go_enter Try.func16, Try.ntmps16
    go_wp2
    go_loopw [5] (fun i wr => ∃ k : Nat, k ≤ xs.length ∧ i = .int .i64 k ∧ agreeG xs ys k ∧ Below w.heap.size w wr) (fun i _ => xs.length - (intOf i).toNat)
    case atStart => exact ⟨0, by omega, rfl, fun j hj => by omega, Below.refl _ _⟩
    case round =>
      obtain ⟨k, hk, rfl, hag, hbw⟩ := hrel
      by_cases hlt : k < xs.length
      · have hly : k < ys.length := by have := HL.out; omega
        obtain ⟨b, off, na, ca, rfl, hb, a0, hRa⟩ := GrpS.get hA hbw hlt
        obtain ⟨b', off', nb, cb, rfl, hb', e0, hRb⟩ := GrpS.get hB hbw hly
        have hx3 := h3 xs[k]! (by rw [getElem!_pos xs k hlt]; exact List.getElem_mem hlt)
        have hy3 := h4 ys[k]! (by rw [getElem!_pos ys k hly]; exact List.getElem_mem hly)
        obtain ⟨x, hx⟩ : ∃ x, xs[k]! = x := ⟨_, rfl⟩
        obtain ⟨y, hy⟩ : ∃ y, ys[k]! = y := ⟨_, rfl⟩
        rw [hx] at a0 hRa hx3
        rw [hy] at e0 hRb hy3
        have HX := Lib.hid hx
        have HY := Lib.hid hy
        clear hx hy
        have cS := Lib.hid (ref_same na nb ca cb x y wr.drew (by omega) (by omega) hRa hRb)
        have hbd : b < wr.drew.heap.size := Nat.lt_of_lt_of_le hb hbw.size
        have hbd' : b' < wr.drew.heap.size := Nat.lt_of_lt_of_le hb' hbw.size
        go_wp2_with fail
        go_region_held3 (fun w' => w'.cell? ⟨b, off + k, none⟩ = some (.slice na x.length ca) ∧ w'.cell? ⟨b', off' + k, none⟩ = some (.slice nb y.length cb)) (first | exact ⟨a0, e0⟩ | exact hS1)
          ((go_at_call 27; refine cS.out.mono ?_; rintro e w1 ⟨rfl, hb1⟩; have hS1 : (fun w' : World => w'.cell? ⟨b, off + k, none⟩ = some (.slice na x.length ca) ∧ w'.cell? ⟨b', off' + k, none⟩ = some (.slice nb y.length cb)) w1 := ⟨(hb1.cell (p := ⟨b, off + k, none⟩) hbd).trans a0, (hb1.cell (p := ⟨b', off' + k, none⟩) hbd').trans e0⟩))
        have hbw1 : Below w.heap.size w w1 := (hbw.drew).trans (hb1.mono hbw.size)
        clear a0 e0 hS1
        by_cases he : x = y
        · rw [decide_eq_true he]
          have HE := Lib.hid he
          clear he
          go_wp2
          go_roundw
          case rel => exact ⟨k + 1, by omega, by go_num, agreeG_succ hag (by rw [HX.out, HY.out, HE.out]), hbw1⟩
          case measure => simp [intOf]; omega
        · rw [decide_eq_false he]
          have HE := Lib.hid he
          clear he
          go_wp2
          go_ret
          exact RetV.bool (by symm; rw [decide_eq_false_iff_not]; intro e; exact HE.out (by rw [← HX.out, ← HY.out, e])) hbw1
      · go_wp2
        go_ret
        exact RetV.bool (by symm; rw [decide_eq_true_iff]; exact agreeG_all HL.out (by rwa [show xs.length = k by omega])) hbw
  · have hlb : ((xs.length : Int) != (ys.length : Int)) = true := by simp; omega
    have hne : xs ≠ ys := fun e => hl (by rw [e])
    clear hl
    go_enter Try.func16, Try.ntmps16
    go_wp2
    go_ret
    exact RetV.bool (by simp [hne]) (Below.refl _ _)
end Go.Proofs
