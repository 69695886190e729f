import Derived.Test.YtoknjlodhohioaaT30
set_option linter.unusedVariables false
set_option linter.unusedSimpArgs false
namespace Go.Proofs
open Go.RowKit Go.Proofs.Mp Go.Proofs.Uf

theorem SlP.lit (w : World) (cs : Array Value) (xs : List (Int × Int)) (n : Nat) (hn : n = xs.length) (h : cs = (xs.flatMap encR).toArray) : SlP (w.alloc (.cells cs 48)) (.slice (some ⟨w.heap.size, 0, none⟩) n n) xs := by
  subst hn
  exact ⟨_, _, rfl, rd_lit encR_len w cs 48 xs h⟩
theorem SlB.lit (w : World) (cs : Array Value) (xs : List Cand) (n : Nat) (hn : n = xs.length) (h : cs = (xs.flatMap encB).toArray) : SlB (w.alloc (.cells cs 23)) (.slice (some ⟨w.heap.size, 0, none⟩) n n) xs := by
  subst hn
  exact ⟨_, _, rfl, rd_lit encB_len w cs 23 xs h⟩
theorem GrpS.lit2 (w : World) {a b : Value} {xs ys : List Int} (ha : SlI (w.alloc (.cells #[a, b] 38)) a xs) (hb : SlI (w.alloc (.cells #[a, b] 38)) b ys) : GrpS (w.alloc (.cells #[a, b] 38)) (.slice (some ⟨w.heap.size, 0, none⟩) 2 2) [xs, ys] := by
  obtain ⟨A, c, rfl, hc, hA⟩ := ha
  obtain ⟨B, d, rfl, hd, hB⟩ := hb
  exact ⟨_, _, [(A, c, xs), (B, d, ys)], rfl, rfl, rd_lit encSl_len w _ 38 _ rfl, by simp; exact ⟨hA, hB⟩⟩

section
variable {w : World} {u v : Value}
theorem ex_k_pairs (h : SlC w v exL) : Calls Try.prog 13 #[v] w (fun e w' => ∃ v', e = .returned v' ∧ SlP w' v' [((0 : Int), (1 : Int))] ∧ Below w.heap.size w w') := by
  have := k_pairs h (by decide)
  rwa [ex_prs] at this
theorem ex_k_clusters (h : SlC w v exL) : Calls Try.prog 17 #[v] w (fun e w' => ∃ v', e = .returned v' ∧ GrpS w' v' [[1, 2], [3]] ∧ Below w.heap.size w w') := by
  have := k_clusters h (by decide) ex_wfs
  rwa [ex_cl] at this
theorem ex_k_free (h : SlC w u exL) (g : SlB w v [exT]) : Calls Try.prog 22 #[u, v] w (fun e w' => ∃ v', e = .returned v' ∧ SlC w' v' [exB, exC] ∧ Below w.heap.size w w') := by
  have := k_free h g (by decide) (by decide)
  rwa [ex_free] at this
end

set_option maxHeartbeats 8000000 in
theorem law_awake (w : World) : Calls Try.prog 11 #[] w (RetV w (.bool true)) := by
  have hw0 : Below w.heap.size w (w.alloc (.cells #[.int .i64 1, .int .i64 0, .int .i64 0, .int .i64 4, .int .i64 4, .int .i64 0, .int .i64 0, .int .i64 0, .int .i64 2, .int .i64 3, .int .i64 3, .int .i64 8, .int .i64 8, .int .i64 0, .int .i64 0, .int .i64 0, .int .i64 3, .int .i64 8, .int .i64 0, .int .i64 9, .int .i64 9, .int .i64 0, .int .i64 0, .int .i64 0] 27)).drew := ((Below.refl _ _).alloc (Nat.le_refl _) _).drew
  have hle : w.heap.size ≤ (w.alloc (.cells #[.int .i64 1, .int .i64 0, .int .i64 0, .int .i64 4, .int .i64 4, .int .i64 0, .int .i64 0, .int .i64 0, .int .i64 2, .int .i64 3, .int .i64 3, .int .i64 8, .int .i64 8, .int .i64 0, .int .i64 0, .int .i64 0, .int .i64 3, .int .i64 8, .int .i64 0, .int .i64 9, .int .i64 9, .int .i64 0, .int .i64 0, .int .i64 0] 27)).drew.heap.size := hw0.size
  have hR : Rd 8 encC (w.alloc (.cells #[.int .i64 1, .int .i64 0, .int .i64 0, .int .i64 4, .int .i64 4, .int .i64 0, .int .i64 0, .int .i64 0, .int .i64 2, .int .i64 3, .int .i64 3, .int .i64 8, .int .i64 8, .int .i64 0, .int .i64 0, .int .i64 0, .int .i64 3, .int .i64 8, .int .i64 0, .int .i64 9, .int .i64 9, .int .i64 0, .int .i64 0, .int .i64 0] 27)).drew (some ⟨w.heap.size, 0, none⟩) exL := (rd_lit encC_len w #[.int .i64 1, .int .i64 0, .int .i64 0, .int .i64 4, .int .i64 4, .int .i64 0, .int .i64 0, .int .i64 0, .int .i64 2, .int .i64 3, .int .i64 3, .int .i64 8, .int .i64 8, .int .i64 0, .int .i64 0, .int .i64 0, .int .i64 3, .int .i64 8, .int .i64 0, .int .i64 9, .int .i64 9, .int .i64 0, .int .i64 0, .int .i64 0] 27 exL rfl).below ((Below.refl _ _).drew)
  have hR1 : Rd 8 encC (w.alloc (.cells #[.int .i64 1, .int .i64 0, .int .i64 0, .int .i64 4, .int .i64 4, .int .i64 0, .int .i64 0, .int .i64 0, .int .i64 2, .int .i64 3, .int .i64 3, .int .i64 8, .int .i64 8, .int .i64 0, .int .i64 0, .int .i64 0, .int .i64 3, .int .i64 8, .int .i64 0, .int .i64 9, .int .i64 9, .int .i64 0, .int .i64 0, .int .i64 0] 27)).drew (some ⟨w.heap.size, 8, none⟩) [exB, exC] := hR.drop (by decide) 1
  have hlt : w.heap.size < (w.alloc (.cells #[.int .i64 1, .int .i64 0, .int .i64 0, .int .i64 4, .int .i64 4, .int .i64 0, .int .i64 0, .int .i64 0, .int .i64 2, .int .i64 3, .int .i64 3, .int .i64 8, .int .i64 8, .int .i64 0, .int .i64 0, .int .i64 0, .int .i64 3, .int .i64 8, .int .i64 0, .int .i64 9, .int .i64 9, .int .i64 0, .int .i64 0, .int .i64 0] 27)).drew.heap.size := by show _ < (w.alloc _).heap.size; simp
  go_enter Try.func11, Try.ntmps11
  go_wp2_with fail
  refine wp_region_held_drew (S := fun W : World => Below (w.alloc (.cells #[.int .i64 1, .int .i64 0, .int .i64 0, .int .i64 4, .int .i64 4, .int .i64 0, .int .i64 0, .int .i64 0, .int .i64 2, .int .i64 3, .int .i64 3, .int .i64 8, .int .i64 8, .int .i64 0, .int .i64 0, .int .i64 0, .int .i64 3, .int .i64 8, .int .i64 0, .int .i64 9, .int .i64 9, .int .i64 0, .int .i64 0, .int .i64 0] 27)).drew.heap.size (w.alloc (.cells #[.int .i64 1, .int .i64 0, .int .i64 0, .int .i64 4, .int .i64 4, .int .i64 0, .int .i64 0, .int .i64 0, .int .i64 2, .int .i64 3, .int .i64 3, .int .i64 8, .int .i64 8, .int .i64 0, .int .i64 0, .int .i64 0, .int .i64 3, .int .i64 8, .int .i64 0, .int .i64 9, .int .i64 9, .int .i64 0, .int .i64 0, .int .i64 0] 27)).drew W) (by kernel_rfl) (Below.refl _ _) (fun hHeld => ?_)
  clear hHeld
  generalize (w.alloc (.cells #[.int .i64 1, .int .i64 0, .int .i64 0, .int .i64 4, .int .i64 4, .int .i64 0, .int .i64 0, .int .i64 0, .int .i64 2, .int .i64 3, .int .i64 3, .int .i64 8, .int .i64 8, .int .i64 0, .int .i64 0, .int .i64 0, .int .i64 3, .int .i64 8, .int .i64 0, .int .i64 9, .int .i64 9, .int .i64 0, .int .i64 0, .int .i64 0] 27)).drew = w0 at *
  generalize w.heap.size = b0 at hR hR1 hlt ⊢
  have hS0 : (fun W : World => Below w0.heap.size w0 W) w0 := Below.refl _ _
  have hl : SlC w0 (.slice (some ⟨b0, 0, none⟩) 3 3) exL := ⟨_, _, rfl, by decide, hR⟩
  have hl1 : SlC w0 (.slice (some ⟨b0, 8, none⟩) 2 2) [exB, exC] := ⟨_, _, rfl, by decide, hR1⟩
  have HA : Hid (∀ W, (fun W : World => Below w0.heap.size w0 W) W → W.cell? ⟨b0, 0, none⟩ = some (.int .i64 1) ∧ W.cell? ⟨b0, 1, none⟩ = some (.int .i64 0) ∧ W.cell? ⟨b0, 2, none⟩ = some (.int .i64 0) ∧ W.cell? ⟨b0, 3, none⟩ = some (.int .i64 4) ∧ W.cell? ⟨b0, 4, none⟩ = some (.int .i64 4) ∧ W.cell? ⟨b0, 5, none⟩ = some (.int .i64 0) ∧ W.cell? ⟨b0, 6, none⟩ = some (.int .i64 0) ∧ W.cell? ⟨b0, 7, none⟩ = some (.int .i64 0)) := Lib.hid (fun W hb => by
    obtain ⟨_, g0, g1, g2, g3, g4, g5, g6, g7⟩ := RdC.cells hR hb (j := 0) (by decide)
    exact ⟨g0, g1, g2, g3, g4, g5, g6, g7⟩)
  have HB : Hid (∀ W, (fun W : World => Below w0.heap.size w0 W) W → W.cell? ⟨b0, 8, none⟩ = some (.int .i64 2) ∧ W.cell? ⟨b0, 9, none⟩ = some (.int .i64 3) ∧ W.cell? ⟨b0, 10, none⟩ = some (.int .i64 3) ∧ W.cell? ⟨b0, 11, none⟩ = some (.int .i64 8) ∧ W.cell? ⟨b0, 12, none⟩ = some (.int .i64 8) ∧ W.cell? ⟨b0, 13, none⟩ = some (.int .i64 0) ∧ W.cell? ⟨b0, 14, none⟩ = some (.int .i64 0) ∧ W.cell? ⟨b0, 15, none⟩ = some (.int .i64 0)) := Lib.hid (fun W hb => by
    obtain ⟨g0, g1, g2, g3, g4, g5, g6, g7⟩ := (RdC.cells hR hb (j := 1) (by decide)).2
    exact ⟨g0, g1, g2, g3, g4, g5, g6, g7⟩)
  have HC : Hid (∀ W, (fun W : World => Below w0.heap.size w0 W) W → W.cell? ⟨b0, 16, none⟩ = some (.int .i64 3) ∧ W.cell? ⟨b0, 17, none⟩ = some (.int .i64 8) ∧ W.cell? ⟨b0, 18, none⟩ = some (.int .i64 0) ∧ W.cell? ⟨b0, 19, none⟩ = some (.int .i64 9) ∧ W.cell? ⟨b0, 20, none⟩ = some (.int .i64 9) ∧ W.cell? ⟨b0, 21, none⟩ = some (.int .i64 0) ∧ W.cell? ⟨b0, 22, none⟩ = some (.int .i64 0) ∧ W.cell? ⟨b0, 23, none⟩ = some (.int .i64 0)) := Lib.hid (fun W hb => by
    obtain ⟨g0, g1, g2, g3, g4, g5, g6, g7⟩ := (RdC.cells hR hb (j := 2) (by decide)).2
    exact ⟨g0, g1, g2, g3, g4, g5, g6, g7⟩)
  clear hR hR1 hlt
  refine wpAnyH_take (i := 0) (oi := ⟨some 9, _, _, _, _, _⟩) (v := ?vr1) rfl (by kernel_rfl) (by kernel_rfl) (by kernel_rfl) (fun _ _ _ h => h) (Or.inl ⟨by kernel_rfl, ?hyr1⟩) (by assumption) ?restr1
  case hyr1 => (intro W hSw; (try dsimp only at hSw); go_simp; try with_reducible rfl)
  case' restr1 => try simp only [Act.put, List.setIfInBounds_toArray, List.set_cons_zero, List.set_cons_succ]
  refine wpAnyH_take (i := 2) (oi := ⟨some 11, _, _, _, _, _⟩) (v := ?vr2) rfl (by kernel_rfl) (by kernel_rfl) (by kernel_rfl) (fun _ _ _ h => h) (Or.inl ⟨by kernel_rfl, ?hyr2⟩) (by assumption) ?restr2
  case hyr2 => (intro W hSw; (try dsimp only at hSw); go_simp; try with_reducible rfl)
  case' restr2 => try simp only [Act.put, List.setIfInBounds_toArray, List.set_cons_zero, List.set_cons_succ]
  refine' wpAnyH_share (fun H f l (act : Value → Value → Act) => ∀ (v10 : Value) (v12 : Value) (WX : World), SlC WX (.slice (some ⟨b0, 0, none⟩) 3 3) exL → SlC WX (.slice (some ⟨b0, 8, none⟩) 2 2) [exB, exC] → SlP WX v10 [((0 : Int), (1 : Int))] → SlP WX v12 [((0 : Int), (1 : Int))] → (fun W : World => Below w0.heap.size w0 W) WX → H f l (act v10 v12) WX) (fun tailr3 => ?mtailr3) ?ttailr3
  case mtailr3 =>
    refine wpAnyH_ready (rs := [1, 3]) (by kernel_rfl) (by simp) ?_
    refine AllReadyH.cons (o := ⟨some 10, _, _, _, _, _⟩) rfl (fun K hK => ?_) ?_
    · skip
      go_simp
      go_at_call 13
      refine (ex_k_pairs hl).mono ?_
      rintro e Wr1 ⟨v10, rfl, h10, hbWr1⟩
      replace hl := hl.below hbWr1
      replace hl1 := hl1.below hbWr1
      have hSWr1 := hS0.trans (hbWr1.mono hS0.size)
      try clear hS0
      clear hbWr1
      go_wp2_with fail
      refine hK.out _ _ hSWr1 (fun hHeld => ?_)
      clear hK hHeld K
      try simp only [Act.put, List.setIfInBounds_toArray, List.set_cons_zero, List.set_cons_succ]
      refine wpAnyH_ready (rs := [3]) (by kernel_rfl) (by simp) ?_
      refine AllReadyH.cons (o := ⟨some 12, _, _, _, _, _⟩) rfl (fun K hK => ?_) AllReadyH.nil
      go_simp
      replace hl := hl.alloc (.cells #[.int .i64 0, .int .i64 1] 48)
      replace hl1 := hl1.alloc (.cells #[.int .i64 0, .int .i64 1] 48)
      replace h10 := h10.alloc (.cells #[.int .i64 0, .int .i64 1] 48)
      have h12 := SlP.lit Wr1 #[.int .i64 0, .int .i64 1] [((0 : Int), (1 : Int))] 1 rfl rfl
      have hSWr2 := hSWr1.alloc hSWr1.size (.cells #[.int .i64 0, .int .i64 1] 48)
      refine hK.out _ _ hSWr2 (fun hHeld => ?_)
      clear hK hHeld K
      try clear hSWr1
      try simp only [Act.put, List.setIfInBounds_toArray, List.set_cons_zero, List.set_cons_succ]
      generalize (Wr1.alloc (.cells #[.int .i64 0, .int .i64 1] 48)) = Wr2 at hl hl1 h10 h12 hSWr2 ⊢
      generalize Value.slice (some ⟨Wr1.heap.size, 0, none⟩) 1 1 = v12 at h12 ⊢
      exact wpAnyH_cast rfl rfl (tailr3 v10 v12 Wr2 hl hl1 h10 h12 hSWr2)
    refine AllReadyH.cons (o := ⟨some 12, _, _, _, _, _⟩) rfl (fun K hK => ?_) AllReadyH.nil
    go_simp
    replace hl := hl.alloc (.cells #[.int .i64 0, .int .i64 1] 48)
    replace hl1 := hl1.alloc (.cells #[.int .i64 0, .int .i64 1] 48)
    have h12 := SlP.lit w0 #[.int .i64 0, .int .i64 1] [((0 : Int), (1 : Int))] 1 rfl rfl
    have hSWr3 := hS0.alloc hS0.size (.cells #[.int .i64 0, .int .i64 1] 48)
    refine hK.out _ _ hSWr3 (fun hHeld => ?_)
    clear hK hHeld K
    try clear hS0
    try simp only [Act.put, List.setIfInBounds_toArray, List.set_cons_zero, List.set_cons_succ]
    generalize (w0.alloc (.cells #[.int .i64 0, .int .i64 1] 48)) = Wr3 at hl hl1 h12 hSWr3 ⊢
    generalize Value.slice (some ⟨w0.heap.size, 0, none⟩) 1 1 = v12 at h12 ⊢
    refine wpAnyH_ready (rs := [1]) (by kernel_rfl) (by simp) ?_
    refine AllReadyH.cons (o := ⟨some 10, _, _, _, _, _⟩) rfl (fun K hK => ?_) AllReadyH.nil
    go_simp
    go_at_call 13
    refine (ex_k_pairs hl).mono ?_
    rintro e Wr4 ⟨v10, rfl, h10, hbWr4⟩
    replace hl := hl.below hbWr4
    replace hl1 := hl1.below hbWr4
    replace h12 := h12.below hbWr4
    have hSWr4 := hSWr3.trans (hbWr4.mono hSWr3.size)
    try clear hSWr3
    clear hbWr4
    go_wp2_with fail
    refine hK.out _ _ hSWr4 (fun hHeld => ?_)
    clear hK hHeld K
    try simp only [Act.put, List.setIfInBounds_toArray, List.set_cons_zero, List.set_cons_succ]
    exact wpAnyH_cast (by kernel_rfl) (by kernel_rfl) (tailr3 v10 v12 Wr4 hl hl1 h10 h12 hSWr4)
  case ttailr3 =>
    try clear hl
    try clear hl1
    try clear hS0
    intro v10 v12 Wr5 hl hl1 h10 h12 hSWr5
    refine wpAnyH_ready (rs := [4]) (by kernel_rfl) (by simp) ?_
    refine AllReadyH.cons (o := ⟨some 13, _, _, _, _, _⟩) rfl (fun K hK => ?_) AllReadyH.nil
    go_simp
    go_at_call 12
    refine (k_samep (b := true) h10 h12 (by decide) (by decide) (by decide)).mono ?_
    rintro e Wr6 ⟨rfl, hbWr6⟩
    replace hl := hl.below hbWr6
    replace hl1 := hl1.below hbWr6
    replace h10 := h10.below hbWr6
    replace h12 := h12.below hbWr6
    have hSWr6 := hSWr5.trans (hbWr6.mono hSWr5.size)
    try clear hSWr5
    clear hbWr6
    go_wp2_with fail
    refine hK.out _ _ hSWr6 (fun hHeld => ?_)
    clear hK hHeld K
    try simp only [Act.put, List.setIfInBounds_toArray, List.set_cons_zero, List.set_cons_succ]
    try clear h10
    try clear h12
    refine wpAnyH_take (i := 5) (oi := ⟨some 14, _, _, _, _, _⟩) (v := ?vr4) rfl (by kernel_rfl) (by kernel_rfl) (by kernel_rfl) (fun _ _ _ h => h) (Or.inl ⟨by kernel_rfl, ?hyr4⟩) (by assumption) ?restr4
    case hyr4 => (intro W hSw; (try dsimp only at hSw); go_simp; try with_reducible rfl)
    case' restr4 => try simp only [Act.put, List.setIfInBounds_toArray, List.set_cons_zero, List.set_cons_succ]
    refine wpAnyH_take (i := 6) (oi := ⟨some 15, _, _, _, _, _⟩) (v := ?vr5) rfl (by kernel_rfl) (by kernel_rfl) (by kernel_rfl) (fun _ _ _ h => h) (Or.inl ⟨by kernel_rfl, ?hyr5⟩) (by assumption) ?restr5
    case hyr5 => (intro W hSw; (try dsimp only at hSw); go_simp; try with_reducible rfl)
    case' restr5 => try simp only [Act.put, List.setIfInBounds_toArray, List.set_cons_zero, List.set_cons_succ]
    refine' wpAnyH_share (fun H f l (act : Value → Value → Value → Value → Act) => ∀ (v16 : Value) (v17 : Value) (v18 : Value) (v19 : Value) (WX : World), SlC WX (.slice (some ⟨b0, 0, none⟩) 3 3) exL → SlC WX (.slice (some ⟨b0, 8, none⟩) 2 2) [exB, exC] → GrpS WX v16 [[1, 2], [3]] → SlI WX v17 [1, 2] → SlI WX v18 [3] → GrpS WX v19 [[1, 2], [3]] → (fun W : World => Below w0.heap.size w0 W) WX → H f l (act v16 v17 v18 v19) WX) (fun tailr10 => ?mtailr10) ?ttailr10
    case mtailr10 =>
      refine' wpAnyH_share (fun H f l (act : Value → Value → Value → Act) => ∀ (v16 : Value) (v17 : Value) (v18 : Value) (WX : World), SlC WX (.slice (some ⟨b0, 0, none⟩) 3 3) exL → SlC WX (.slice (some ⟨b0, 8, none⟩) 2 2) [exB, exC] → GrpS WX v16 [[1, 2], [3]] → SlI WX v17 [1, 2] → SlI WX v18 [3] → (fun W : World => Below w0.heap.size w0 W) WX → H f l (act v16 v17 v18) WX) (fun tailr9 => ?mtailr9) ?ttailr9
      case mtailr9 =>
        refine' wpAnyH_share (fun H f l (act : Value → Value → Act) => ∀ (v17 : Value) (v18 : Value) (WX : World), SlC WX (.slice (some ⟨b0, 0, none⟩) 3 3) exL → SlC WX (.slice (some ⟨b0, 8, none⟩) 2 2) [exB, exC] → SlI WX v17 [1, 2] → SlI WX v18 [3] → (fun W : World => Below w0.heap.size w0 W) WX → H f l (act v17 v18) WX) (fun tailr8 => ?mtailr8) ?ttailr8
        case mtailr8 =>
          refine' wpAnyH_share (fun H f l (act : Value → Value → Act) => ∀ (v16 : Value) (v18 : Value) (WX : World), SlC WX (.slice (some ⟨b0, 0, none⟩) 3 3) exL → SlC WX (.slice (some ⟨b0, 8, none⟩) 2 2) [exB, exC] → GrpS WX v16 [[1, 2], [3]] → SlI WX v18 [3] → (fun W : World => Below w0.heap.size w0 W) WX → H f l (act v16 v18) WX) (fun tailr7 => ?mtailr7) ?ttailr7
          case mtailr7 =>
            refine' wpAnyH_share (fun H f l (act : Value → Value → Act) => ∀ (v16 : Value) (v17 : Value) (WX : World), SlC WX (.slice (some ⟨b0, 0, none⟩) 3 3) exL → SlC WX (.slice (some ⟨b0, 8, none⟩) 2 2) [exB, exC] → GrpS WX v16 [[1, 2], [3]] → SlI WX v17 [1, 2] → (fun W : World => Below w0.heap.size w0 W) WX → H f l (act v16 v17) WX) (fun tailr6 => ?mtailr6) ?ttailr6
            case mtailr6 =>
              refine wpAnyH_ready (rs := [7, 8, 9]) (by kernel_rfl) (by simp) ?_
              refine AllReadyH.cons (o := ⟨some 16, _, _, _, _, _⟩) rfl (fun K hK => ?_) ?_
              · skip
                go_simp
                go_at_call 17
                refine (ex_k_clusters hl).mono ?_
                rintro e Wr7 ⟨v16, rfl, h16, hbWr7⟩
                replace hl := hl.below hbWr7
                replace hl1 := hl1.below hbWr7
                have hSWr7 := hSWr6.trans (hbWr7.mono hSWr6.size)
                try clear hSWr6
                clear hbWr7
                go_wp2_with fail
                refine hK.out _ _ hSWr7 (fun hHeld => ?_)
                clear hK hHeld K
                try simp only [Act.put, List.setIfInBounds_toArray, List.set_cons_zero, List.set_cons_succ]
                refine wpAnyH_ready (rs := [8, 9]) (by kernel_rfl) (by simp) ?_
                refine AllReadyH.cons (o := ⟨some 17, _, _, _, _, _⟩) rfl (fun K hK => ?_) ?_
                · skip
                  go_simp
                  replace hl := hl.alloc (.cells #[.int .i64 1, .int .i64 2] 3)
                  replace hl1 := hl1.alloc (.cells #[.int .i64 1, .int .i64 2] 3)
                  replace h16 := h16.alloc (.cells #[.int .i64 1, .int .i64 2] 3)
                  have h17 := SlI.lit Wr7 #[.int .i64 1, .int .i64 2] [1, 2] 2 rfl rfl
                  have hSWr8 := hSWr7.alloc hSWr7.size (.cells #[.int .i64 1, .int .i64 2] 3)
                  refine hK.out _ _ hSWr8 (fun hHeld => ?_)
                  clear hK hHeld K
                  try clear hSWr7
                  try simp only [Act.put, List.setIfInBounds_toArray, List.set_cons_zero, List.set_cons_succ]
                  generalize (Wr7.alloc (.cells #[.int .i64 1, .int .i64 2] 3)) = Wr8 at hl hl1 h16 h17 hSWr8 ⊢
                  generalize Value.slice (some ⟨Wr7.heap.size, 0, none⟩) 2 2 = v17 at h17 ⊢
                  exact wpAnyH_cast rfl rfl (tailr6 v16 v17 Wr8 hl hl1 h16 h17 hSWr8)
                refine AllReadyH.cons (o := ⟨some 18, _, _, _, _, _⟩) rfl (fun K hK => ?_) AllReadyH.nil
                go_simp
                replace hl := hl.alloc (.cells #[.int .i64 3] 3)
                replace hl1 := hl1.alloc (.cells #[.int .i64 3] 3)
                replace h16 := h16.alloc (.cells #[.int .i64 3] 3)
                have h18 := SlI.lit Wr7 #[.int .i64 3] [3] 1 rfl rfl
                have hSWr9 := hSWr7.alloc hSWr7.size (.cells #[.int .i64 3] 3)
                refine hK.out _ _ hSWr9 (fun hHeld => ?_)
                clear hK hHeld K
                try clear hSWr7
                try simp only [Act.put, List.setIfInBounds_toArray, List.set_cons_zero, List.set_cons_succ]
                generalize (Wr7.alloc (.cells #[.int .i64 3] 3)) = Wr9 at hl hl1 h16 h18 hSWr9 ⊢
                generalize Value.slice (some ⟨Wr7.heap.size, 0, none⟩) 1 1 = v18 at h18 ⊢
                exact wpAnyH_cast rfl rfl (tailr7 v16 v18 Wr9 hl hl1 h16 h18 hSWr9)
              refine AllReadyH.cons (o := ⟨some 17, _, _, _, _, _⟩) rfl (fun K hK => ?_) ?_
              · skip
                go_simp
                replace hl := hl.alloc (.cells #[.int .i64 1, .int .i64 2] 3)
                replace hl1 := hl1.alloc (.cells #[.int .i64 1, .int .i64 2] 3)
                have h17 := SlI.lit Wr6 #[.int .i64 1, .int .i64 2] [1, 2] 2 rfl rfl
                have hSWr10 := hSWr6.alloc hSWr6.size (.cells #[.int .i64 1, .int .i64 2] 3)
                refine hK.out _ _ hSWr10 (fun hHeld => ?_)
                clear hK hHeld K
                try clear hSWr6
                try simp only [Act.put, List.setIfInBounds_toArray, List.set_cons_zero, List.set_cons_succ]
                generalize (Wr6.alloc (.cells #[.int .i64 1, .int .i64 2] 3)) = Wr10 at hl hl1 h17 hSWr10 ⊢
                generalize Value.slice (some ⟨Wr6.heap.size, 0, none⟩) 2 2 = v17 at h17 ⊢
                refine wpAnyH_ready (rs := [7, 9]) (by kernel_rfl) (by simp) ?_
                refine AllReadyH.cons (o := ⟨some 16, _, _, _, _, _⟩) rfl (fun K hK => ?_) ?_
                · skip
                  go_simp
                  go_at_call 17
                  refine (ex_k_clusters hl).mono ?_
                  rintro e Wr11 ⟨v16, rfl, h16, hbWr11⟩
                  replace hl := hl.below hbWr11
                  replace hl1 := hl1.below hbWr11
                  replace h17 := h17.below hbWr11
                  have hSWr11 := hSWr10.trans (hbWr11.mono hSWr10.size)
                  try clear hSWr10
                  clear hbWr11
                  go_wp2_with fail
                  refine hK.out _ _ hSWr11 (fun hHeld => ?_)
                  clear hK hHeld K
                  try simp only [Act.put, List.setIfInBounds_toArray, List.set_cons_zero, List.set_cons_succ]
                  exact wpAnyH_cast (by kernel_rfl) (by kernel_rfl) (tailr6 v16 v17 Wr11 hl hl1 h16 h17 hSWr11)
                refine AllReadyH.cons (o := ⟨some 18, _, _, _, _, _⟩) rfl (fun K hK => ?_) AllReadyH.nil
                go_simp
                replace hl := hl.alloc (.cells #[.int .i64 3] 3)
                replace hl1 := hl1.alloc (.cells #[.int .i64 3] 3)
                replace h17 := h17.alloc (.cells #[.int .i64 3] 3)
                have h18 := SlI.lit Wr10 #[.int .i64 3] [3] 1 rfl rfl
                have hSWr12 := hSWr10.alloc hSWr10.size (.cells #[.int .i64 3] 3)
                refine hK.out _ _ hSWr12 (fun hHeld => ?_)
                clear hK hHeld K
                try clear hSWr10
                try simp only [Act.put, List.setIfInBounds_toArray, List.set_cons_zero, List.set_cons_succ]
                generalize (Wr10.alloc (.cells #[.int .i64 3] 3)) = Wr12 at hl hl1 h17 h18 hSWr12 ⊢
                generalize Value.slice (some ⟨Wr10.heap.size, 0, none⟩) 1 1 = v18 at h18 ⊢
                exact wpAnyH_cast rfl rfl (tailr8 v17 v18 Wr12 hl hl1 h17 h18 hSWr12)
              refine AllReadyH.cons (o := ⟨some 18, _, _, _, _, _⟩) rfl (fun K hK => ?_) AllReadyH.nil
              go_simp
              replace hl := hl.alloc (.cells #[.int .i64 3] 3)
              replace hl1 := hl1.alloc (.cells #[.int .i64 3] 3)
              have h18 := SlI.lit Wr6 #[.int .i64 3] [3] 1 rfl rfl
              have hSWr13 := hSWr6.alloc hSWr6.size (.cells #[.int .i64 3] 3)
              refine hK.out _ _ hSWr13 (fun hHeld => ?_)
              clear hK hHeld K
              try clear hSWr6
              try simp only [Act.put, List.setIfInBounds_toArray, List.set_cons_zero, List.set_cons_succ]
              generalize (Wr6.alloc (.cells #[.int .i64 3] 3)) = Wr13 at hl hl1 h18 hSWr13 ⊢
              generalize Value.slice (some ⟨Wr6.heap.size, 0, none⟩) 1 1 = v18 at h18 ⊢
              refine wpAnyH_ready (rs := [7, 8]) (by kernel_rfl) (by simp) ?_
              refine AllReadyH.cons (o := ⟨some 16, _, _, _, _, _⟩) rfl (fun K hK => ?_) ?_
              · skip
                go_simp
                go_at_call 17
                refine (ex_k_clusters hl).mono ?_
                rintro e Wr14 ⟨v16, rfl, h16, hbWr14⟩
                replace hl := hl.below hbWr14
                replace hl1 := hl1.below hbWr14
                replace h18 := h18.below hbWr14
                have hSWr14 := hSWr13.trans (hbWr14.mono hSWr13.size)
                try clear hSWr13
                clear hbWr14
                go_wp2_with fail
                refine hK.out _ _ hSWr14 (fun hHeld => ?_)
                clear hK hHeld K
                try simp only [Act.put, List.setIfInBounds_toArray, List.set_cons_zero, List.set_cons_succ]
                exact wpAnyH_cast (by kernel_rfl) (by kernel_rfl) (tailr7 v16 v18 Wr14 hl hl1 h16 h18 hSWr14)
              refine AllReadyH.cons (o := ⟨some 17, _, _, _, _, _⟩) rfl (fun K hK => ?_) AllReadyH.nil
              go_simp
              replace hl := hl.alloc (.cells #[.int .i64 1, .int .i64 2] 3)
              replace hl1 := hl1.alloc (.cells #[.int .i64 1, .int .i64 2] 3)
              replace h18 := h18.alloc (.cells #[.int .i64 1, .int .i64 2] 3)
              have h17 := SlI.lit Wr13 #[.int .i64 1, .int .i64 2] [1, 2] 2 rfl rfl
              have hSWr15 := hSWr13.alloc hSWr13.size (.cells #[.int .i64 1, .int .i64 2] 3)
              refine hK.out _ _ hSWr15 (fun hHeld => ?_)
              clear hK hHeld K
              try clear hSWr13
              try simp only [Act.put, List.setIfInBounds_toArray, List.set_cons_zero, List.set_cons_succ]
              generalize (Wr13.alloc (.cells #[.int .i64 1, .int .i64 2] 3)) = Wr15 at hl hl1 h18 h17 hSWr15 ⊢
              generalize Value.slice (some ⟨Wr13.heap.size, 0, none⟩) 2 2 = v17 at h17 ⊢
              exact wpAnyH_cast (by kernel_rfl) (by kernel_rfl) (tailr8 v17 v18 Wr15 hl hl1 h17 h18 hSWr15)
            case ttailr6 =>
              try clear hl
              try clear hl1
              try clear hSWr6
              intro v16 v17 Wr16 hl hl1 h16 h17 hSWr16
              refine wpAnyH_ready (rs := [9]) (by kernel_rfl) (by simp) ?_
              refine AllReadyH.cons (o := ⟨some 18, _, _, _, _, _⟩) rfl (fun K hK => ?_) AllReadyH.nil
              go_simp
              replace hl := hl.alloc (.cells #[.int .i64 3] 3)
              replace hl1 := hl1.alloc (.cells #[.int .i64 3] 3)
              replace h16 := h16.alloc (.cells #[.int .i64 3] 3)
              replace h17 := h17.alloc (.cells #[.int .i64 3] 3)
              have h18 := SlI.lit Wr16 #[.int .i64 3] [3] 1 rfl rfl
              have hSWr17 := hSWr16.alloc hSWr16.size (.cells #[.int .i64 3] 3)
              refine hK.out _ _ hSWr17 (fun hHeld => ?_)
              clear hK hHeld K
              try clear hSWr16
              try simp only [Act.put, List.setIfInBounds_toArray, List.set_cons_zero, List.set_cons_succ]
              generalize (Wr16.alloc (.cells #[.int .i64 3] 3)) = Wr17 at hl hl1 h16 h17 h18 hSWr17 ⊢
              generalize Value.slice (some ⟨Wr16.heap.size, 0, none⟩) 1 1 = v18 at h18 ⊢
              exact wpAnyH_cast rfl rfl (tailr9 v16 v17 v18 Wr17 hl hl1 h16 h17 h18 hSWr17)
          case ttailr7 =>
            try clear hl
            try clear hl1
            try clear hSWr6
            intro v16 v18 Wr18 hl hl1 h16 h18 hSWr18
            refine wpAnyH_ready (rs := [8]) (by kernel_rfl) (by simp) ?_
            refine AllReadyH.cons (o := ⟨some 17, _, _, _, _, _⟩) rfl (fun K hK => ?_) AllReadyH.nil
            go_simp
            replace hl := hl.alloc (.cells #[.int .i64 1, .int .i64 2] 3)
            replace hl1 := hl1.alloc (.cells #[.int .i64 1, .int .i64 2] 3)
            replace h16 := h16.alloc (.cells #[.int .i64 1, .int .i64 2] 3)
            replace h18 := h18.alloc (.cells #[.int .i64 1, .int .i64 2] 3)
            have h17 := SlI.lit Wr18 #[.int .i64 1, .int .i64 2] [1, 2] 2 rfl rfl
            have hSWr19 := hSWr18.alloc hSWr18.size (.cells #[.int .i64 1, .int .i64 2] 3)
            refine hK.out _ _ hSWr19 (fun hHeld => ?_)
            clear hK hHeld K
            try clear hSWr18
            try simp only [Act.put, List.setIfInBounds_toArray, List.set_cons_zero, List.set_cons_succ]
            generalize (Wr18.alloc (.cells #[.int .i64 1, .int .i64 2] 3)) = Wr19 at hl hl1 h16 h18 h17 hSWr19 ⊢
            generalize Value.slice (some ⟨Wr18.heap.size, 0, none⟩) 2 2 = v17 at h17 ⊢
            exact wpAnyH_cast (by kernel_rfl) (by kernel_rfl) (tailr9 v16 v17 v18 Wr19 hl hl1 h16 h17 h18 hSWr19)
        case ttailr8 =>
          try clear hl
          try clear hl1
          try clear hSWr6
          intro v17 v18 Wr20 hl hl1 h17 h18 hSWr20
          refine wpAnyH_ready (rs := [7, 10]) (by kernel_rfl) (by simp) ?_
          refine AllReadyH.cons (o := ⟨some 16, _, _, _, _, _⟩) rfl (fun K hK => ?_) ?_
          · skip
            go_simp
            go_at_call 17
            refine (ex_k_clusters hl).mono ?_
            rintro e Wr21 ⟨v16, rfl, h16, hbWr21⟩
            replace hl := hl.below hbWr21
            replace hl1 := hl1.below hbWr21
            replace h17 := h17.below hbWr21
            replace h18 := h18.below hbWr21
            have hSWr21 := hSWr20.trans (hbWr21.mono hSWr20.size)
            try clear hSWr20
            clear hbWr21
            go_wp2_with fail
            refine hK.out _ _ hSWr21 (fun hHeld => ?_)
            clear hK hHeld K
            try simp only [Act.put, List.setIfInBounds_toArray, List.set_cons_zero, List.set_cons_succ]
            exact wpAnyH_cast (by kernel_rfl) (by kernel_rfl) (tailr9 v16 v17 v18 Wr21 hl hl1 h16 h17 h18 hSWr21)
          refine AllReadyH.cons (o := ⟨some 19, _, _, _, _, _⟩) rfl (fun K hK => ?_) AllReadyH.nil
          obtain ⟨A17, c17, e17⟩ : ∃ A c, v17 = .slice A 2 c := by obtain ⟨A, c, h, _⟩ := h17; exact ⟨A, c, h⟩
          subst e17
          obtain ⟨A18, c18, e18⟩ : ∃ A c, v18 = .slice A 1 c := by obtain ⟨A, c, h, _⟩ := h18; exact ⟨A, c, h⟩
          subst e18
          go_simp
          replace hl := hl.alloc (.cells #[.slice A17 2 c17, .slice A18 1 c18] 38)
          replace hl1 := hl1.alloc (.cells #[.slice A17 2 c17, .slice A18 1 c18] 38)
          replace h17 := h17.alloc (.cells #[.slice A17 2 c17, .slice A18 1 c18] 38)
          replace h18 := h18.alloc (.cells #[.slice A17 2 c17, .slice A18 1 c18] 38)
          have h19 := GrpS.lit2 Wr20 h17 h18
          have hSWr22 := hSWr20.alloc hSWr20.size (.cells #[.slice A17 2 c17, .slice A18 1 c18] 38)
          refine hK.out _ _ hSWr22 (fun hHeld => ?_)
          clear hK hHeld K
          try clear hSWr20
          try simp only [Act.put, List.setIfInBounds_toArray, List.set_cons_zero, List.set_cons_succ]
          generalize (Wr20.alloc (.cells #[.slice A17 2 c17, .slice A18 1 c18] 38)) = Wr22 at hl hl1 h17 h18 h19 hSWr22 ⊢
          generalize Value.slice (some ⟨Wr20.heap.size, 0, none⟩) 2 2 = v19 at h19 ⊢
          generalize Value.slice A17 2 c17 = v17 at h17 ⊢
          generalize Value.slice A18 1 c18 = v18 at h18 ⊢
          refine wpAnyH_ready (rs := [7]) (by kernel_rfl) (by simp) ?_
          refine AllReadyH.cons (o := ⟨some 16, _, _, _, _, _⟩) rfl (fun K hK => ?_) AllReadyH.nil
          go_simp
          go_at_call 17
          refine (ex_k_clusters hl).mono ?_
          rintro e Wr23 ⟨v16, rfl, h16, hbWr23⟩
          replace hl := hl.below hbWr23
          replace hl1 := hl1.below hbWr23
          replace h17 := h17.below hbWr23
          replace h18 := h18.below hbWr23
          replace h19 := h19.below hbWr23
          have hSWr23 := hSWr22.trans (hbWr23.mono hSWr22.size)
          try clear hSWr22
          clear hbWr23
          go_wp2_with fail
          refine hK.out _ _ hSWr23 (fun hHeld => ?_)
          clear hK hHeld K
          try simp only [Act.put, List.setIfInBounds_toArray, List.set_cons_zero, List.set_cons_succ]
          exact wpAnyH_cast rfl rfl (tailr10 v16 v17 v18 v19 Wr23 hl hl1 h16 h17 h18 h19 hSWr23)
      case ttailr9 =>
        try clear hl
        try clear hl1
        try clear hSWr6
        intro v16 v17 v18 Wr24 hl hl1 h16 h17 h18 hSWr24
        refine wpAnyH_ready (rs := [10]) (by kernel_rfl) (by simp) ?_
        refine AllReadyH.cons (o := ⟨some 19, _, _, _, _, _⟩) rfl (fun K hK => ?_) AllReadyH.nil
        obtain ⟨A17, c17, e17⟩ : ∃ A c, v17 = .slice A 2 c := by obtain ⟨A, c, h, _⟩ := h17; exact ⟨A, c, h⟩
        subst e17
        obtain ⟨A18, c18, e18⟩ : ∃ A c, v18 = .slice A 1 c := by obtain ⟨A, c, h, _⟩ := h18; exact ⟨A, c, h⟩
        subst e18
        go_simp
        replace hl := hl.alloc (.cells #[.slice A17 2 c17, .slice A18 1 c18] 38)
        replace hl1 := hl1.alloc (.cells #[.slice A17 2 c17, .slice A18 1 c18] 38)
        replace h16 := h16.alloc (.cells #[.slice A17 2 c17, .slice A18 1 c18] 38)
        replace h17 := h17.alloc (.cells #[.slice A17 2 c17, .slice A18 1 c18] 38)
        replace h18 := h18.alloc (.cells #[.slice A17 2 c17, .slice A18 1 c18] 38)
        have h19 := GrpS.lit2 Wr24 h17 h18
        have hSWr25 := hSWr24.alloc hSWr24.size (.cells #[.slice A17 2 c17, .slice A18 1 c18] 38)
        refine hK.out _ _ hSWr25 (fun hHeld => ?_)
        clear hK hHeld K
        try clear hSWr24
        try simp only [Act.put, List.setIfInBounds_toArray, List.set_cons_zero, List.set_cons_succ]
        generalize (Wr24.alloc (.cells #[.slice A17 2 c17, .slice A18 1 c18] 38)) = Wr25 at hl hl1 h16 h17 h18 h19 hSWr25 ⊢
        generalize Value.slice (some ⟨Wr24.heap.size, 0, none⟩) 2 2 = v19 at h19 ⊢
        generalize Value.slice A17 2 c17 = v17 at h17 ⊢
        generalize Value.slice A18 1 c18 = v18 at h18 ⊢
        exact wpAnyH_cast (by kernel_rfl) (by kernel_rfl) (tailr10 v16 v17 v18 v19 Wr25 hl hl1 h16 h17 h18 h19 hSWr25)
    case ttailr10 =>
      try clear hl
      try clear hl1
      try clear hSWr6
      intro v16 v17 v18 v19 Wr26 hl hl1 h16 h17 h18 h19 hSWr26
      refine wpAnyH_ready (rs := [11]) (by kernel_rfl) (by simp) ?_
      refine AllReadyH.cons (o := ⟨some 20, _, _, _, _, _⟩) rfl (fun K hK => ?_) AllReadyH.nil
      go_simp
      go_at_call 16
      refine (k_sameg (b := true) h16 h19 (by decide) (by decide) (by decide) (by decide) (by decide)).mono ?_
      rintro e Wr27 ⟨rfl, hbWr27⟩
      replace hl := hl.below hbWr27
      replace hl1 := hl1.below hbWr27
      replace h16 := h16.below hbWr27
      replace h17 := h17.below hbWr27
      replace h18 := h18.below hbWr27
      replace h19 := h19.below hbWr27
      have hSWr27 := hSWr26.trans (hbWr27.mono hSWr26.size)
      try clear hSWr26
      clear hbWr27
      go_wp2_with fail
      refine hK.out _ _ hSWr27 (fun hHeld => ?_)
      clear hK hHeld K
      try simp only [Act.put, List.setIfInBounds_toArray, List.set_cons_zero, List.set_cons_succ]
      try clear h16
      try clear h17
      try clear h18
      try clear h19
      refine wpAnyH_take (i := 12) (oi := ⟨some 21, _, _, _, _, _⟩) (v := ?vr11) rfl (by kernel_rfl) (by kernel_rfl) (by kernel_rfl) (fun _ _ _ h => h) (Or.inl ⟨by kernel_rfl, ?hyr11⟩) (by assumption) ?restr11
      case hyr11 => (intro W hSw; (try dsimp only at hSw); go_simp; try with_reducible rfl)
      case' restr11 => try simp only [Act.put, List.setIfInBounds_toArray, List.set_cons_zero, List.set_cons_succ]
      refine wpAnyH_take (i := 13) (oi := ⟨some 22, _, _, _, _, _⟩) (v := ?vr12) rfl (by kernel_rfl) (by kernel_rfl) (by kernel_rfl) (fun _ _ _ h => h) (Or.inl ⟨by kernel_rfl, ?hyr12⟩) (by assumption) ?restr12
      case hyr12 => (intro W hSw; (try dsimp only at hSw); go_simp; try with_reducible rfl)
      case' restr12 => try simp only [Act.put, List.setIfInBounds_toArray, List.set_cons_zero, List.set_cons_succ]
      refine wpAnyH_take (i := 14) (oi := ⟨some 23, _, _, _, _, _⟩) (v := ?vr13) rfl (by kernel_rfl) (by kernel_rfl) (by kernel_rfl) (fun _ _ _ h => h) (Or.inl ⟨by kernel_rfl, ?hyr13⟩) (by assumption) ?restr13
      case hyr13 => (intro W hSw; (try dsimp only at hSw); go_simp; try with_reducible rfl)
      case' restr13 => try simp only [Act.put, List.setIfInBounds_toArray, List.set_cons_zero, List.set_cons_succ]
      refine wpAnyH_take (i := 15) (oi := ⟨some 24, _, _, _, _, _⟩) (v := ?vr14) rfl (by kernel_rfl) (by kernel_rfl) (by kernel_rfl) (fun _ _ _ h => h) (Or.inl ⟨by kernel_rfl, ?hyr14⟩) (by assumption) ?restr14
      case hyr14 => (intro W hSw; (try dsimp only at hSw); go_simp; try with_reducible rfl)
      case' restr14 => try simp only [Act.put, List.setIfInBounds_toArray, List.set_cons_zero, List.set_cons_succ]
      refine wpAnyH_take (i := 16) (oi := ⟨some 25, _, _, _, _, _⟩) (v := ?vr15) rfl (by kernel_rfl) (by kernel_rfl) (by kernel_rfl) (fun _ _ _ h => h) (Or.inl ⟨by kernel_rfl, ?hyr15⟩) (by assumption) ?restr15
      case hyr15 => (intro W hSw; obtain ⟨c0, c1, c2, c3, c4, c5, c6, c7⟩ := HA.out W hSw; clear hSw; (try dsimp only at hSw); go_simp; try with_reducible rfl)
      case' restr15 => try simp only [Act.put, List.setIfInBounds_toArray, List.set_cons_zero, List.set_cons_succ]
      refine wpAnyH_take (i := 17) (oi := ⟨some 26, _, _, _, _, _⟩) (v := ?vr16) rfl (by kernel_rfl) (by kernel_rfl) (by kernel_rfl) (fun _ _ _ h => h) (Or.inl ⟨by kernel_rfl, ?hyr16⟩) (by assumption) ?restr16
      case hyr16 => (intro W hSw; (try dsimp only at hSw); go_simp; try with_reducible rfl)
      case' restr16 => try simp only [Act.put, List.setIfInBounds_toArray, List.set_cons_zero, List.set_cons_succ]
      refine wpAnyH_take (i := 18) (oi := ⟨some 27, _, _, _, _, _⟩) (v := ?vr17) rfl (by kernel_rfl) (by kernel_rfl) (by kernel_rfl) (fun _ _ _ h => h) (Or.inl ⟨by kernel_rfl, ?hyr17⟩) (by assumption) ?restr17
      case hyr17 => (intro W hSw; (try dsimp only at hSw); go_simp; try with_reducible rfl)
      case' restr17 => try simp only [Act.put, List.setIfInBounds_toArray, List.set_cons_zero, List.set_cons_succ]
      refine wpAnyH_take (i := 19) (oi := ⟨some 28, _, _, _, _, _⟩) (v := ?vr18) rfl (by kernel_rfl) (by kernel_rfl) (by kernel_rfl) (fun _ _ _ h => h) (Or.inl ⟨by kernel_rfl, ?hyr18⟩) (by assumption) ?restr18
      case hyr18 => (intro W hSw; obtain ⟨c0, c1, c2, c3, c4, c5, c6, c7⟩ := HB.out W hSw; clear hSw; (try dsimp only at hSw); go_simp; try with_reducible rfl)
      case' restr18 => try simp only [Act.put, List.setIfInBounds_toArray, List.set_cons_zero, List.set_cons_succ]
      refine wpAnyH_ready (rs := [20]) (by kernel_rfl) (by simp) ?_
      refine AllReadyH.cons (o := ⟨some 29, _, _, _, _, _⟩) rfl (fun K hK => ?_) AllReadyH.nil
      go_simp
      go_at_call 9
      refine (k_hit (x := exA) (y := exB) ex_hits.1).mono ?_
      rintro e Wr28 ⟨rfl, hbWr28⟩
      replace hl := hl.below hbWr28
      replace hl1 := hl1.below hbWr28
      have hSWr28 := hSWr27.trans (hbWr28.mono hSWr27.size)
      try clear hSWr27
      clear hbWr28
      go_wp2_with fail
      refine hK.out _ _ hSWr28 (fun hHeld => ?_)
      clear hK hHeld K
      try simp only [Act.put, List.setIfInBounds_toArray, List.set_cons_zero, List.set_cons_succ]
      refine wpAnyH_take (i := 21) (oi := ⟨some 30, _, _, _, _, _⟩) (v := ?vr19) rfl (by kernel_rfl) (by kernel_rfl) (by kernel_rfl) (fun _ _ _ h => h) (Or.inl ⟨by kernel_rfl, ?hyr19⟩) (by assumption) ?restr19
      case hyr19 => (intro W hSw; (try dsimp only at hSw); go_simp; try with_reducible rfl)
      case' restr19 => try simp only [Act.put, List.setIfInBounds_toArray, List.set_cons_zero, List.set_cons_succ]
      refine wpAnyH_take (i := 22) (oi := ⟨some 31, _, _, _, _, _⟩) (v := ?vr20) rfl (by kernel_rfl) (by kernel_rfl) (by kernel_rfl) (fun _ _ _ h => h) (Or.inl ⟨by kernel_rfl, ?hyr20⟩) (by assumption) ?restr20
      case hyr20 => (intro W hSw; (try dsimp only at hSw); go_simp; try with_reducible rfl)
      case' restr20 => try simp only [Act.put, List.setIfInBounds_toArray, List.set_cons_zero, List.set_cons_succ]
      refine wpAnyH_take (i := 23) (oi := ⟨some 32, _, _, _, _, _⟩) (v := ?vr21) rfl (by kernel_rfl) (by kernel_rfl) (by kernel_rfl) (fun _ _ _ h => h) (Or.inl ⟨by kernel_rfl, ?hyr21⟩) (by assumption) ?restr21
      case hyr21 => (intro W hSw; (try dsimp only at hSw); go_simp; try with_reducible rfl)
      case' restr21 => try simp only [Act.put, List.setIfInBounds_toArray, List.set_cons_zero, List.set_cons_succ]
      refine wpAnyH_take (i := 24) (oi := ⟨some 33, _, _, _, _, _⟩) (v := ?vr22) rfl (by kernel_rfl) (by kernel_rfl) (by kernel_rfl) (fun _ _ _ h => h) (Or.inl ⟨by kernel_rfl, ?hyr22⟩) (by assumption) ?restr22
      case hyr22 => (intro W hSw; (try dsimp only at hSw); go_simp; try with_reducible rfl)
      case' restr22 => try simp only [Act.put, List.setIfInBounds_toArray, List.set_cons_zero, List.set_cons_succ]
      refine wpAnyH_take (i := 25) (oi := ⟨some 34, _, _, _, _, _⟩) (v := ?vr23) rfl (by kernel_rfl) (by kernel_rfl) (by kernel_rfl) (fun _ _ _ h => h) (Or.inl ⟨by kernel_rfl, ?hyr23⟩) (by assumption) ?restr23
      case hyr23 => (intro W hSw; obtain ⟨c0, c1, c2, c3, c4, c5, c6, c7⟩ := HC.out W hSw; clear hSw; (try dsimp only at hSw); go_simp; try with_reducible rfl)
      case' restr23 => try simp only [Act.put, List.setIfInBounds_toArray, List.set_cons_zero, List.set_cons_succ]
      refine wpAnyH_take (i := 26) (oi := ⟨some 35, _, _, _, _, _⟩) (v := ?vr24) rfl (by kernel_rfl) (by kernel_rfl) (by kernel_rfl) (fun _ _ _ h => h) (Or.inl ⟨by kernel_rfl, ?hyr24⟩) (by assumption) ?restr24
      case hyr24 => (intro W hSw; (try dsimp only at hSw); go_simp; try with_reducible rfl)
      case' restr24 => try simp only [Act.put, List.setIfInBounds_toArray, List.set_cons_zero, List.set_cons_succ]
      refine wpAnyH_take (i := 27) (oi := ⟨some 36, _, _, _, _, _⟩) (v := ?vr25) rfl (by kernel_rfl) (by kernel_rfl) (by kernel_rfl) (fun _ _ _ h => h) (Or.inl ⟨by kernel_rfl, ?hyr25⟩) (by assumption) ?restr25
      case hyr25 => (intro W hSw; (try dsimp only at hSw); go_simp; try with_reducible rfl)
      case' restr25 => try simp only [Act.put, List.setIfInBounds_toArray, List.set_cons_zero, List.set_cons_succ]
      refine wpAnyH_take (i := 28) (oi := ⟨some 37, _, _, _, _, _⟩) (v := ?vr26) rfl (by kernel_rfl) (by kernel_rfl) (by kernel_rfl) (fun _ _ _ h => h) (Or.inl ⟨by kernel_rfl, ?hyr26⟩) (by assumption) ?restr26
      case hyr26 => (intro W hSw; obtain ⟨c0, c1, c2, c3, c4, c5, c6, c7⟩ := HC.out W hSw; clear hSw; (try dsimp only at hSw); go_simp; try with_reducible rfl)
      case' restr26 => try simp only [Act.put, List.setIfInBounds_toArray, List.set_cons_zero, List.set_cons_succ]
      refine wpAnyH_ready (rs := [29]) (by kernel_rfl) (by simp) ?_
      refine AllReadyH.cons (o := ⟨some 38, _, _, _, _, _⟩) rfl (fun K hK => ?_) AllReadyH.nil
      go_simp
      go_at_call 9
      refine (k_hit (x := exC) (y := exC) ex_hits.2.1).mono ?_
      rintro e Wr29 ⟨rfl, hbWr29⟩
      replace hl := hl.below hbWr29
      replace hl1 := hl1.below hbWr29
      have hSWr29 := hSWr28.trans (hbWr29.mono hSWr28.size)
      try clear hSWr28
      clear hbWr29
      go_wp2_with fail
      refine hK.out _ _ hSWr29 (fun hHeld => ?_)
      clear hK hHeld K
      try simp only [Act.put, List.setIfInBounds_toArray, List.set_cons_zero, List.set_cons_succ]
      refine wpAnyH_take (i := 30) (oi := ⟨some 39, _, _, _, _, _⟩) (v := ?vr27) rfl (by kernel_rfl) (by kernel_rfl) (by kernel_rfl) (fun _ _ _ h => h) (Or.inl ⟨by kernel_rfl, ?hyr27⟩) (by assumption) ?restr27
      case hyr27 => (intro W hSw; (try dsimp only at hSw); go_simp; try with_reducible rfl)
      case' restr27 => try simp only [Act.put, List.setIfInBounds_toArray, List.set_cons_zero, List.set_cons_succ]
      refine wpAnyH_take (i := 31) (oi := ⟨some 40, _, _, _, _, _⟩) (v := ?vr28) rfl (by kernel_rfl) (by kernel_rfl) (by kernel_rfl) (fun _ _ _ h => h) (Or.inl ⟨by kernel_rfl, ?hyr28⟩) (by assumption) ?restr28
      case hyr28 => (intro W hSw; (try dsimp only at hSw); go_simp; try with_reducible rfl)
      case' restr28 => try simp only [Act.put, List.setIfInBounds_toArray, List.set_cons_zero, List.set_cons_succ]
      refine wpAnyH_take (i := 32) (oi := ⟨some 41, _, _, _, _, _⟩) (v := ?vr29) rfl (by kernel_rfl) (by kernel_rfl) (by kernel_rfl) (fun _ _ _ h => h) (Or.inl ⟨by kernel_rfl, ?hyr29⟩) (by assumption) ?restr29
      case hyr29 => (intro W hSw; (try dsimp only at hSw); go_simp; try with_reducible rfl)
      case' restr29 => try simp only [Act.put, List.setIfInBounds_toArray, List.set_cons_zero, List.set_cons_succ]
      refine wpAnyH_take (i := 33) (oi := ⟨some 42, _, _, _, _, _⟩) (v := ?vr30) rfl (by kernel_rfl) (by kernel_rfl) (by kernel_rfl) (fun _ _ _ h => h) (Or.inl ⟨by kernel_rfl, ?hyr30⟩) (by assumption) ?restr30
      case hyr30 => (intro W hSw; (try dsimp only at hSw); go_simp; try with_reducible rfl)
      case' restr30 => try simp only [Act.put, List.setIfInBounds_toArray, List.set_cons_zero, List.set_cons_succ]
      refine wpAnyH_take (i := 34) (oi := ⟨some 43, _, _, _, _, _⟩) (v := ?vr31) rfl (by kernel_rfl) (by kernel_rfl) (by kernel_rfl) (fun _ _ _ h => h) (Or.inl ⟨by kernel_rfl, ?hyr31⟩) (by assumption) ?restr31
      case hyr31 => (intro W hSw; obtain ⟨c0, c1, c2, c3, c4, c5, c6, c7⟩ := HB.out W hSw; clear hSw; (try dsimp only at hSw); go_simp; try with_reducible rfl)
      case' restr31 => try simp only [Act.put, List.setIfInBounds_toArray, List.set_cons_zero, List.set_cons_succ]
      refine wpAnyH_take (i := 35) (oi := ⟨some 44, _, _, _, _, _⟩) (v := ?vr32) rfl (by kernel_rfl) (by kernel_rfl) (by kernel_rfl) (fun _ _ _ h => h) (Or.inl ⟨by kernel_rfl, ?hyr32⟩) (by assumption) ?restr32
      case hyr32 => (intro W hSw; (try dsimp only at hSw); go_simp; try with_reducible rfl)
      case' restr32 => try simp only [Act.put, List.setIfInBounds_toArray, List.set_cons_zero, List.set_cons_succ]
      refine wpAnyH_take (i := 36) (oi := ⟨some 45, _, _, _, _, _⟩) (v := ?vr33) rfl (by kernel_rfl) (by kernel_rfl) (by kernel_rfl) (fun _ _ _ h => h) (Or.inl ⟨by kernel_rfl, ?hyr33⟩) (by assumption) ?restr33
      case hyr33 => (intro W hSw; (try dsimp only at hSw); go_simp; try with_reducible rfl)
      case' restr33 => try simp only [Act.put, List.setIfInBounds_toArray, List.set_cons_zero, List.set_cons_succ]
      refine wpAnyH_take (i := 37) (oi := ⟨some 46, _, _, _, _, _⟩) (v := ?vr34) rfl (by kernel_rfl) (by kernel_rfl) (by kernel_rfl) (fun _ _ _ h => h) (Or.inl ⟨by kernel_rfl, ?hyr34⟩) (by assumption) ?restr34
      case hyr34 => (intro W hSw; obtain ⟨c0, c1, c2, c3, c4, c5, c6, c7⟩ := HC.out W hSw; clear hSw; (try dsimp only at hSw); go_simp; try with_reducible rfl)
      case' restr34 => try simp only [Act.put, List.setIfInBounds_toArray, List.set_cons_zero, List.set_cons_succ]
      refine wpAnyH_ready (rs := [38]) (by kernel_rfl) (by simp) ?_
      refine AllReadyH.cons (o := ⟨some 47, _, _, _, _, _⟩) rfl (fun K hK => ?_) AllReadyH.nil
      go_simp
      go_at_call 9
      refine (k_hit (x := exB) (y := exC) ex_hits.2.2).mono ?_
      rintro e Wr30 ⟨rfl, hbWr30⟩
      replace hl := hl.below hbWr30
      replace hl1 := hl1.below hbWr30
      have hSWr30 := hSWr29.trans (hbWr30.mono hSWr29.size)
      try clear hSWr29
      clear hbWr30
      go_wp2_with fail
      refine hK.out _ _ hSWr30 (fun hHeld => ?_)
      clear hK hHeld K
      try simp only [Act.put, List.setIfInBounds_toArray, List.set_cons_zero, List.set_cons_succ]
      refine wpAnyH_take (i := 39) (oi := ⟨some 48, _, _, _, _, _⟩) (v := ?vr35) rfl (by kernel_rfl) (by kernel_rfl) (by kernel_rfl) (fun _ _ _ h => h) (Or.inl ⟨by kernel_rfl, ?hyr35⟩) (by assumption) ?restr35
      case hyr35 => (intro W hSw; (try dsimp only at hSw); go_simp; try with_reducible rfl)
      case' restr35 => try simp only [Act.put, List.setIfInBounds_toArray, List.set_cons_zero, List.set_cons_succ]
      refine wpAnyH_take (i := 40) (oi := ⟨some 49, _, _, _, _, _⟩) (v := ?vr36) rfl (by kernel_rfl) (by kernel_rfl) (by kernel_rfl) (fun _ _ _ h => h) (Or.inl ⟨by kernel_rfl, ?hyr36⟩) (by assumption) ?restr36
      case hyr36 => (intro W hSw; (try dsimp only at hSw); go_simp; try with_reducible rfl)
      case' restr36 => try simp only [Act.put, List.setIfInBounds_toArray, List.set_cons_zero, List.set_cons_succ]
      refine wpAnyH_take (i := 41) (oi := ⟨some 50, _, _, _, _, _⟩) (v := ?vr37) rfl (by kernel_rfl) (by kernel_rfl) (by kernel_rfl) (fun _ _ _ h => h) (Or.inl ⟨by kernel_rfl, ?hyr37⟩) (by assumption) ?restr37
      case hyr37 => (intro W hSw; (try dsimp only at hSw); go_simp; try with_reducible rfl)
      case' restr37 => try simp only [Act.put, List.setIfInBounds_toArray, List.set_cons_zero, List.set_cons_succ]
      refine wpAnyH_take (i := 42) (oi := ⟨some 51, _, _, _, _, _⟩) (v := ?vr38) rfl (by kernel_rfl) (by kernel_rfl) (by kernel_rfl) (fun _ _ _ h => h) (Or.inl ⟨by kernel_rfl, ?hyr38⟩) (by assumption) ?restr38
      case hyr38 => (intro W hSw; (try dsimp only at hSw); go_simp; try with_reducible rfl)
      case' restr38 => try simp only [Act.put, List.setIfInBounds_toArray, List.set_cons_zero, List.set_cons_succ]
      refine wpAnyH_take (i := 43) (oi := ⟨some 52, _, _, _, _, _⟩) (v := ?vr39) rfl (by kernel_rfl) (by kernel_rfl) (by kernel_rfl) (fun _ _ _ h => h) (Or.inl ⟨by kernel_rfl, ?hyr39⟩) (by assumption) ?restr39
      case hyr39 => (intro W hSw; (try dsimp only at hSw); go_simp; try with_reducible rfl)
      case' restr39 => try simp only [Act.put, List.setIfInBounds_toArray, List.set_cons_zero, List.set_cons_succ]
      refine wpAnyH_take (i := 46) (oi := ⟨some 55, _, _, _, _, _⟩) (v := ?vr40) rfl (by kernel_rfl) (by kernel_rfl) (by kernel_rfl) (fun _ _ _ h => h) (Or.inl ⟨by kernel_rfl, ?hyr40⟩) (by assumption) ?restr40
      case hyr40 => (intro W hSw; (try dsimp only at hSw); go_simp; try with_reducible rfl)
      case' restr40 => try simp only [Act.put, List.setIfInBounds_toArray, List.set_cons_zero, List.set_cons_succ]
      refine wpAnyH_take (i := 47) (oi := ⟨some 56, _, _, _, _, _⟩) (v := ?vr41) rfl (by kernel_rfl) (by kernel_rfl) (by kernel_rfl) (fun _ _ _ h => h) (Or.inl ⟨by kernel_rfl, ?hyr41⟩) (by assumption) ?restr41
      case hyr41 => (intro W hSw; (try dsimp only at hSw); go_simp; try with_reducible rfl)
      case' restr41 => try simp only [Act.put, List.setIfInBounds_toArray, List.set_cons_zero, List.set_cons_succ]
      refine wpAnyH_ready (rs := [44]) (by kernel_rfl) (by simp) ?_
      refine AllReadyH.cons (o := ⟨some 53, _, _, _, _, _⟩) rfl (fun K hK => ?_) AllReadyH.nil
      go_simp
      replace hl := hl.alloc (.cells #[.int .i64 0, .int .i64 0, .int .i64 1, .int .i64 1] 23)
      replace hl1 := hl1.alloc (.cells #[.int .i64 0, .int .i64 0, .int .i64 1, .int .i64 1] 23)
      have h53 := SlB.lit Wr30 #[.int .i64 0, .int .i64 0, .int .i64 1, .int .i64 1] [exT] 1 rfl rfl
      have hSWr31 := hSWr30.alloc hSWr30.size (.cells #[.int .i64 0, .int .i64 0, .int .i64 1, .int .i64 1] 23)
      refine hK.out _ _ hSWr31 (fun hHeld => ?_)
      clear hK hHeld K
      try clear hSWr30
      try simp only [Act.put, List.setIfInBounds_toArray, List.set_cons_zero, List.set_cons_succ]
      generalize (Wr30.alloc (.cells #[.int .i64 0, .int .i64 0, .int .i64 1, .int .i64 1] 23)) = Wr31 at hl hl1 h53 hSWr31 ⊢
      generalize Value.slice (some ⟨Wr30.heap.size, 0, none⟩) 1 1 = v53 at h53 ⊢
      refine wpAnyH_ready (rs := [45]) (by kernel_rfl) (by simp) ?_
      refine AllReadyH.cons (o := ⟨some 54, _, _, _, _, _⟩) rfl (fun K hK => ?_) AllReadyH.nil
      go_simp
      go_at_call 22
      refine (ex_k_free hl h53).mono ?_
      rintro e Wr32 ⟨v54, rfl, h54, hbWr32⟩
      replace hl := hl.below hbWr32
      replace hl1 := hl1.below hbWr32
      replace h53 := h53.below hbWr32
      have hSWr32 := hSWr31.trans (hbWr32.mono hSWr31.size)
      try clear hSWr31
      clear hbWr32
      go_wp2_with fail
      refine hK.out _ _ hSWr32 (fun hHeld => ?_)
      clear hK hHeld K
      try simp only [Act.put, List.setIfInBounds_toArray, List.set_cons_zero, List.set_cons_succ]
      refine wpAnyH_ready (rs := [48]) (by kernel_rfl) (by simp) ?_
      refine AllReadyH.cons (o := ⟨some 57, _, _, _, _, _⟩) rfl (fun K hK => ?_) AllReadyH.nil
      go_simp
      go_at_call 21
      refine (k_samec (b := true) h54 hl1 (by decide) (by decide) (by decide)).mono ?_
      rintro e Wr33 ⟨rfl, hbWr33⟩
      replace hl := hl.below hbWr33
      replace hl1 := hl1.below hbWr33
      replace h53 := h53.below hbWr33
      replace h54 := h54.below hbWr33
      have hSWr33 := hSWr32.trans (hbWr33.mono hSWr32.size)
      try clear hSWr32
      clear hbWr33
      go_wp2_with fail
      refine hK.out _ _ hSWr33 (fun hHeld => ?_)
      clear hK hHeld K
      try simp only [Act.put, List.setIfInBounds_toArray, List.set_cons_zero, List.set_cons_succ]
      try clear h53
      try clear h54
      try clear hl1
      try clear hl
      refine wpAnyH_take (i := 49) (oi := ⟨some 58, _, _, _, _, _⟩) (v := ?vr42) rfl (by kernel_rfl) (by kernel_rfl) (by kernel_rfl) (fun _ _ _ h => h) (Or.inl ⟨by kernel_rfl, ?hyr42⟩) (by assumption) ?restr42
      case hyr42 => (intro W hSw; (try dsimp only at hSw); go_simp; try with_reducible rfl)
      case' restr42 => try simp only [Act.put, List.setIfInBounds_toArray, List.set_cons_zero, List.set_cons_succ]
      refine wpAnyH_take (i := 50) (oi := ⟨some 0, _, _, _, _, _⟩) (v := ?vr43) rfl (by kernel_rfl) (by kernel_rfl) (by kernel_rfl) (fun _ _ _ h => h) (Or.inl ⟨by kernel_rfl, ?hyr43⟩) (by assumption) ?restr43
      case hyr43 => (intro W hSw; (try dsimp only at hSw); go_simp; try with_reducible rfl)
      case' restr43 => try simp only [Act.put, List.setIfInBounds_toArray, List.set_cons_zero, List.set_cons_succ]
      refine wpAnyH_done (by kernel_rfl) ?_ _
      go_wp2
      go_ret
      exact RetV.bool rfl (hw0.trans (hSWr33.mono hle))
end Go.Proofs
