/- The reference's Same. -/
import Derived.Test.YtcfhhkdjdpkjpaaXJ8
import Derived.Test.YtcfhhkdjdpkjpaaXJ11
set_option linter.unusedVariables false
set_option linter.unusedSimpArgs false
namespace Go.Proofs
open Go.RowKit Go.Proofs.Mp

/-- a list of lines, laid open: its lines' cells and their points -/
theorem LnD.open_ {w : World} {v : Value} {L : List Ln} (h : LnD w v L) : ∃ (A : Option Addr) (c : Nat), v = .slice A L.length c ∧ ∀ i, i < L.length → ∃ b off g cap, A = some ⟨b, off, none⟩ ∧
    w.cell? ⟨b, off + i * 2, none⟩ = some (.int .i64 L[i]!.1) ∧ w.cell? ⟨b, off + i * 2 + 1, none⟩ = some (.slice (some ⟨g, 0, none⟩) L[i]!.2.length cap) ∧
    ∀ j, j < L[i]!.2.length → w.cell? ⟨g, j * 2, none⟩ = some (.int .i64 L[i]!.2[j]!.1) ∧ w.cell? ⟨g, j * 2 + 1, none⟩ = some (.int .i64 L[i]!.2[j]!.2) := by
  obtain ⟨A, c, vs, rfl, hl, hR, hA⟩ := h
  refine ⟨A, c, rfl, fun i hi => ?_⟩
  obtain ⟨b, off, rfl, hb, hc⟩ := Rd.at_ hR (j := i) (by omega)
  obtain ⟨g, cap, e, _, hg, hp⟩ := hA i (by omega)
  have c1 := hc i (by omega) 0 (.int .i64 vs[i]!.1) rfl
  have c2 := hc i (by omega) 1 vs[i]!.2 rfl
  rw [e] at c1 c2
  refine ⟨b, off, g, cap, rfl, c1, c2, fun j hj => ?_⟩
  obtain ⟨b2, off2, e2, _, hc2⟩ := Rd.at_ hp hj
  injection e2 with e2
  injection e2 with e3 e4
  subst e3 e4
  have k1 := hc2 j hj 0 (.int .i64 L[i]!.2[j]!.1) rfl
  have k2 := hc2 j hj 1 (.int .i64 L[i]!.2[j]!.2) rfl
  rw [show 0 + j * 2 + 0 = j * 2 by omega] at k1
  rw [show 0 + j * 2 + 1 = j * 2 + 1 by omega] at k2
  exact ⟨k1, k2⟩
theorem drewN_two (w : World) (a b : Nat) : (w.drewN a).drewN b = w.drewN (a + b) := by simp [World.drewN, Nat.add_assoc]
theorem list_ne {α : Type} [Inhabited α] {L K : List α} {i : Nat} (h : L[i]! ≠ K[i]!) : L ≠ K := fun e => h (by rw [e])
theorem list_eq {α : Type} [Inhabited α] {L K : List α} (hl : L.length = K.length) (h : ∀ j, j < L.length → L[j]! = K[j]!) : L = K := by
  apply List.ext_getElem hl
  intro i h1 h2
  have := h i h1
  rwa [getElem!_pos L i h1, getElem!_pos K i h2] at this
set_option maxRecDepth 100000 in
set_option maxHeartbeats 16000000 in
theorem ref_same (L K : List Ln) (v1 v2 : Value) (w : World) (h1 : LnD w v1 L) (h2 : LnD w v2 K) (hl : L.length ≤ 1000000000) (hp : ∀ l ∈ L, l.2.length ≤ 1000000000) (hk : K.length ≤ 1000000000) (hpk : ∀ l ∈ K, l.2.length ≤ 1000000000) :
    Calls Try.prog 16 #[v1, v2] w (RetV w (.bool (decide (L = K)))) := by
  have heq := Try.neq23
  have hgd := Try.guard23
  obtain ⟨A, c, rfl, hA⟩ := h1.open_
  obtain ⟨A', c', rfl, hA'⟩ := h2.open_
  clear h1 h2
  have HA := Lib.hid hA
  have HA' := Lib.hid hA'
  have HPL := Lib.hid hp
  have HPK := Lib.hid hpk
  clear hA hA' hp hpk
  generalize hn : L.length = n at *
  generalize hn' : K.length = n' at *
  have HN := Lib.hid hn
  have HN' := Lib.hid hn'
  clear hn hn'
  obtain ⟨d, hd⟩ : ∃ d, decide (L = K) = d := ⟨_, rfl⟩
  have HD := Lib.hid hd
  rw [hd]
  clear hd
  by_cases hnn : n = n'
  rotate_left
  · have hni : ¬ ((n : Int) = (n' : Int)) := by omega
    have HF := Lib.hid (show d = false by rw [← HD.out]; exact decide_eq_false fun e => hnn (by rw [← HN.out, ← HN'.out, e]))
    go_enter Try.func16, Try.ntmps16
    go_wp2
    go_ret
    exact ⟨by rw [HF.out]; rfl, Below.refl _ _⟩
  · subst hnn
    go_enter Try.func16, Try.ntmps16
    go_upto_block 0 with fail
    go_wp2_with fail
    go_loopw [5] (fun i wr => ∃ k q : Nat, k ≤ n ∧ i = .int .i64 k ∧ w.drewN q = wr ∧ ∀ j, j < k → L[j]! = K[j]!) (fun i _ => n - (intOf i).toNat)
    case atStart => exact ⟨0, 0, by omega, rfl, rfl, fun j hj => by omega⟩
    case round =>
      obtain ⟨k, q, hkn, rfl, rfl, hall⟩ := hrel
      by_cases hlt : k < n
      rotate_left
      · have hkn' : n = k := by omega
        subst hkn'
        have hge : ¬ ((n : Int) < (n : Int)) := by omega
        have HF := Lib.hid (show d = true by rw [← HD.out]; exact decide_eq_true (list_eq (HN.out.trans HN'.out.symm) (fun j hj => hall j (by rw [HN.out] at hj; exact hj))))
        clear hall
        go_wp2
        go_ret
        exact ⟨by rw [HF.out]; rfl, ⟨rfl, rfl, rfl, Nat.le_refl _, fun _ _ => rfl⟩⟩
      · have hli : (k : Int) < (n : Int) := by omega
        obtain ⟨b, off, g, cap, rfl, c1, c2, hc⟩ := HA.out k hlt
        obtain ⟨b', off', g', cap', rfl, c1', c2', hc'⟩ := HA'.out k hlt
        have HALL := Lib.hid hall
        have hm1 := HPL.out L[k]! (by rw [getElem!_pos L k (by rw [HN.out]; exact hlt)]; exact List.getElem_mem _)
        have hm2 := HPK.out K[k]! (by rw [getElem!_pos K k (by rw [HN'.out]; exact hlt)]; exact List.getElem_mem _)
        have HNE := Lib.hid (fun (h : L[k]! ≠ K[k]!) => (show d = false by rw [← HD.out]; exact decide_eq_false (list_ne h)))
        clear hall
        generalize hx : L[k]! = x at *
        generalize hy : K[k]! = y at *
        have HX := Lib.hid (And.intro hx hy)
        obtain ⟨l1, p1⟩ := x
        obtain ⟨l2, p2⟩ := y
        clear hx hy
        dsimp only at *
        by_cases hlv : l1 = l2
        rotate_left
        · have HF := Lib.hid (HNE.out (fun e => hlv (congrArg Prod.fst e)))
          clear hc hc'
          go_wp2_with fail
          go_quiet (fail)
          go_wp2
          go_ret
          exact ⟨by rw [HF.out]; rfl, ⟨rfl, rfl, rfl, Nat.le_refl _, fun _ _ => rfl⟩⟩
        · by_cases hpl : p1.length = p2.length
          rotate_left
          · have HF := Lib.hid (HNE.out (fun e => hpl (congrArg (fun z => List.length (Prod.snd z)) e)))
            have hpi : ¬ ((p1.length : Int) = (p2.length : Int)) := by omega
            have hpj : ((p1.length : Int) != (p2.length : Int)) = true := by rw [bne_iff_ne]; exact hpi
            clear hc hc'
            go_wp2_with fail
            go_quiet (fail)
            go_wp2
            go_ret
            exact ⟨by rw [HF.out]; rfl, ⟨rfl, rfl, rfl, Nat.le_refl _, fun _ _ => rfl⟩⟩
          · subst hlv
            have hpj : ((p1.length : Int) != (p2.length : Int)) = false := by rw [bne_eq_false_iff_eq]; omega
            obtain ⟨m, hm⟩ : ∃ m, p1.length = m := ⟨_, rfl⟩
            have hm2 : p2.length = m := by omega
            have HM := Lib.hid (And.intro hm hm2)
            rw [hm] at c2 hc hm1 hpj
            rw [hm2] at c2' hc' hm2 hpj
            have HC := Lib.hid hc
            have HC' := Lib.hid hc'
            clear hm hm2 hpl hc hc'
            go_wp2_with fail
            go_quiet (fail)
            go_upto_block 2 with fail
            go_wp2_with fail
            go_loopw [6] (fun i wr => ∃ j q' : Nat, j ≤ m ∧ i = .int .i64 j ∧ w.drewN q' = wr ∧ ∀ i, i < j → p1[i]! = p2[i]!) (fun i _ => m - (intOf i).toNat)
            case atStart => exact ⟨0, _, by omega, rfl, (drewN_two _ _ _).symm, fun j hj => by omega⟩
            case round =>
              obtain ⟨j, q', hjm, rfl, rfl, hall⟩ := hrel
              by_cases hlj : j < m
              rotate_left
              · have hjm' : m = j := by omega
                have hge : ¬ ((m : Int) < (j : Int)) := by omega
                have hge2 : ¬ ((j : Int) < (m : Int)) := by omega
                have HEq := Lib.hid (show L[k]! = K[k]! by
                  rw [HX.out.1, HX.out.2]
                  congr 1
                  exact list_eq (HM.out.1.trans HM.out.2.symm) (fun i hi => hall i (by rw [HM.out.1] at hi; omega)))
                clear hall hjm'
                go_wp2
                go_roundw
                case rel => exact ⟨k + 1, q', by omega, by go_num, rfl, fun i hi => by
                  by_cases e : i = k
                  · rw [e]; exact HEq.out
                  · exact HALL.out i (by omega)⟩
                case measure => simp [intOf]; omega
              · have hjl : (j : Int) < (m : Int) := by omega
                obtain ⟨k1, k2⟩ := HC.out j hlj
                obtain ⟨k3, k4⟩ := HC'.out j hlj
                have HA2 := Lib.hid hall
                have HN2 := Lib.hid (fun (h : p1[j]! ≠ p2[j]!) => HNE.out (fun e => h (by injection e with _ e; rw [e])))
                obtain ⟨⟨x1, x2⟩, hx⟩ : ∃ z, p1[j]! = z := ⟨_, rfl⟩
                obtain ⟨⟨y1, y2⟩, hy⟩ : ∃ z, p2[j]! = z := ⟨_, rfl⟩
                have HXY := Lib.hid (And.intro hx hy)
                rw [hx] at k1 k2 HN2
                rw [hy] at k3 k4 HN2
                dsimp only at k1 k2 k3 k4
                clear hx hy hall
                by_cases hd : (x1, x2) = (y1, y2)
                · have HE := Lib.hid hd
                  injection hd with e1 e2
                  subst e1 e2
                  go_wp2_with fail
                  go_quiet (fail)
                  go_wp2
                  go_roundw
                  case rel => exact ⟨j + 1, _, by omega, by go_num, rfl, fun i hi => by
                    by_cases e : i = j
                    · rw [e, HXY.out.1, HXY.out.2]
                    · exact HA2.out i (by omega)⟩
                  case measure => simp [intOf]; omega
                · have HF := Lib.hid (HN2.out hd)
                  go_wp2_with fail
                  go_quiet (fail)
                  go_wp2
                  go_ret
                  exact ⟨by rw [HF.out]; rfl, ⟨rfl, rfl, rfl, Nat.le_refl _, fun _ _ => rfl⟩⟩
end Go.Proofs
/- The reference's Lines: the plain part, and a list of lines beside a list of edges, both the call's own. -/
set_option linter.unusedVariables false
set_option linter.unusedSimpArgs false
namespace Go.Proofs
open Go.RowKit Go.Proofs.Mp Go.Lib

/-- the reference's lines and used edges behind the first k crossed edges -/
def rlL (f : Nat → Pt) (lv : Int) (S : List (Nat × Nat)) (E : List Nat) (k : Nat) : List Ln := linesOf f lv (((E.take k).filter (firstB S)).map (chain S))
def usL (S : List (Nat × Nat)) (E : List Nat) (k : Nat) : List Nat := ((E.take k).filter (firstB S)).flatMap (chain S)
theorem take_filter_succ (p : Nat → Bool) (E : List Nat) (k : Nat) (h : k < E.length) : (E.take (k + 1)).filter p = (E.take k).filter p ++ (if p E[k]! = true then [E[k]!] else []) := by
  rw [List.take_succ_eq_append_getElem h, List.filter_append, getElem!_pos E k h]
  congr 1
  by_cases hp : p E[k] = true
  · rw [if_pos hp, List.filter_cons_of_pos hp]; rfl
  · rw [if_neg hp, List.filter_cons_of_neg hp]; rfl
theorem rlL_no {f : Nat → Pt} {lv : Int} {S : List (Nat × Nat)} {E : List Nat} {k : Nat} (h : k < E.length) (hf : firstB S E[k]! = false) : rlL f lv S E (k + 1) = rlL f lv S E k ∧ usL S E (k + 1) = usL S E k := by
  unfold rlL usL
  rw [take_filter_succ _ _ _ h, hf, if_neg (by decide), List.append_nil]
  exact ⟨rfl, rfl⟩
theorem linesOf_app (f : Nat → Pt) (lv : Int) (a b : List (List Nat)) : linesOf f lv (a ++ b) = linesOf f lv a ++ linesOf f lv b := by unfold linesOf; rw [List.flatMap_append]
theorem rlL_yes {f : Nat → Pt} {lv : Int} {S : List (Nat × Nat)} {E : List Nat} {k : Nat} (h : k < E.length) (hf : firstB S E[k]! = true) : rlL f lv S E (k + 1) = rlL f lv S E k ++ lineOf f lv (chain S E[k]!) ∧ usL S E (k + 1) = usL S E k ++ chain S E[k]! := by
  unfold rlL usL
  rw [take_filter_succ _ _ _ h, hf, if_pos rfl, List.map_append, linesOf_app, List.flatMap_append]
  refine ⟨by congr 1; unfold linesOf; simp, by simp⟩
theorem usL_not {S : List (Nat × Nat)} {E : List Nat} {k : Nat} (hS : Inj S) (hE : E.Pairwise (· < ·)) (h : k < E.length) (hm : E[k]! ∈ usL S E k) : firstB S E[k]! = false := by
  cases hf : firstB S E[k]! with
  | false => rfl
  | true =>
    unfold usL at hm
    obtain ⟨e', he', hc⟩ := List.mem_flatMap.1 hm
    obtain ⟨h1, h2⟩ := List.mem_filter.1 he'
    refine absurd hc (first_unused hS hf h2 ?_)
    obtain ⟨i, hi, rfl⟩ := List.mem_iff_getElem.1 h1
    rw [List.length_take] at hi
    rw [List.getElem_take, getElem!_pos E k h]
    exact List.pairwise_iff_getElem.1 hE i k (by omega) h (by omega)
theorem usL_len {S : List (Nat × Nat)} {E : List Nat} (hS : Inj S) (hsm : Small S) : ∀ k, (usL S E k).length ≤ 10002 * k := by
  have hl := hsm.1
  intro k
  unfold usL
  have key : ∀ l : List Nat, (l.flatMap (chain S)).length ≤ 10002 * l.length := by
    intro l
    induction l with
    | nil => simp
    | cons e l ih =>
      rw [List.flatMap_cons, List.length_append, List.length_cons]
      have := chain_len_le hS e
      omega
  refine Nat.le_trans (key _) (Nat.mul_le_mul_left _ (Nat.le_trans (List.length_filter_le _ _) ?_))
  rw [List.length_take]
  omega
theorem rlL_len {f : Nat → Pt} {lv : Int} {S : List (Nat × Nat)} {E : List Nat} (k : Nat) : (rlL f lv S E k).length ≤ k := by
  unfold rlL
  refine Nat.le_trans (linesOf_len f lv _) ?_
  rw [List.length_map]
  refine Nat.le_trans (List.length_filter_le _ _) ?_
  rw [List.length_take]
  omega
theorem chain_alone {S : List (Nat × Nat)} {e : Nat} (h : dom S e = false) : chain S e = [e] := by
  unfold dom at h
  have : nx S e = none := by cases hn : nx S e with
    | none => rfl
    | some k => rw [hn] at h; cases h
  unfold chain
  rw [walkF, this]
/-- at the end they are all lines -/
theorem rlL_all {f : Nat → Pt} {lv : Int} {S : List (Nat × Nat)} {N : Nat} {cr : Nat → Bool} (hcr : ∀ e, repB S e = true → cr e = true) :
    rlL f lv S ((List.range N).filter cr) ((List.range N).filter cr).length = linesOf f lv (chainsL S N) := by
  unfold rlL chainsL
  rw [List.take_length]
  generalize List.range N = l
  unfold linesOf
  induction l with
  | nil => rfl
  | cons e l ih =>
    by_cases hr : repB S e = true
    · have hf : firstB S e = true := by
        unfold repB at hr
        unfold firstB
        rw [Bool.or_eq_true] at hr ⊢
        rcases hr with hr | hr
        · left; unfold Mp.start at hr; rw [Bool.and_eq_true] at hr; exact hr.2
        · exact .inr hr
      rw [List.filter_cons_of_pos (hcr e hr), List.filter_cons_of_pos hf, List.filter_cons_of_pos hr, List.map_cons, List.map_cons, List.flatMap_cons, List.flatMap_cons, ih]
    · rw [List.filter_cons_of_neg hr]
      by_cases hc : cr e = true
      · rw [List.filter_cons_of_pos hc]
        by_cases hf : firstB S e = true
        · rw [List.filter_cons_of_pos hf, List.map_cons, List.flatMap_cons, ih]
          have hd : dom S e = false := by
            unfold repB at hr
            unfold firstB at hf
            rw [Bool.or_eq_true] at hr hf
            rcases hf with hf | hf
            · cases hdm : dom S e with
              | false => rfl
              | true => exact absurd (.inl (by unfold Mp.start; rw [hdm, hf]; rfl)) hr
            · exact absurd (.inr hf) hr
          have hl : lineOf f lv (chain S e) = [] := by
            unfold lineOf
            rw [if_neg]
            have h1 := cmpTo_len ((chain S e).map f) ((chain S e).map f).length
            rw [cmpTo_all, chain_alone hd] at h1
            rw [chain_alone hd]
            simpa using h1
          rw [hl, List.nil_append]
        · rw [List.filter_cons_of_neg hf]; exact ih
      · rw [List.filter_cons_of_neg hc]; exact ih

/-- a list of lines of the call's own that has no block with the list vu in common -/
def LnU (w : World) (base : Nat) (vl : Value) (L : List Ln) (vu : Value) : Prop :=
  ∃ vs : List (Int × Value), vs.length = L.length ∧ Own 41 2 encLn w base vl vs ∧ (∀ i, i < vs.length → LnAt w vs[i]! L[i]! (fun g => base ≤ g ∧ vl.ownBlock ≠ some g ∧ vu.ownBlock ≠ some g)) ∧ ∀ j, vl.ownBlock = some j → vu.ownBlock ≠ some j
theorem LnU.nil (w : World) (base : Nat) (vu : Value) : LnU w base (.slice none 0 0) [] vu := ⟨[], rfl, Own.nil w base, fun i hi => by simp at hi, fun j hj => by cases hj⟩
theorem LnU.lnR {w : World} {base : Nat} {vl vu : Value} {L : List Ln} (h : LnU w base vl L vu) : LnR w base vl L := by
  obtain ⟨vs, h1, h2, h3, _⟩ := h
  refine ⟨vs, h1, h2, fun i hi => ?_⟩
  obtain ⟨g, cap, g1, g2, g3⟩ := h3 i hi
  exact ⟨g, cap, g1, ⟨g2.1, g2.2.1⟩, g3⟩
theorem LnU.used {w w' : World} {base : Nat} {vl vu vu' : Value} {L : List Ln} (h : LnU w base vl L vu) (hg : w.grownBy w' vu.ownBlock) (hl : vu'.ownBlock = vu.ownBlock ∨ ∃ j, vu'.ownBlock = some j ∧ w.heap.size ≤ j) : LnU w' base vl L vu' := by
  obtain ⟨vs, h1, h2, h3, h4⟩ := h
  have hn : ∀ q, q < w.heap.size → vu.ownBlock ≠ some q → vu'.ownBlock ≠ some q := by
    intro q hq hne e
    rcases hl with hl | ⟨j, hl, hj⟩
    · exact hne (hl ▸ e)
    · rw [hl] at e
      injection e with e
      omega
  refine ⟨vs, h1, World.ownsRow.kept h2 hg ?_, fun i hi => (h3 i hi).grown hg (fun g ok _ => ok.2.2) (fun g ok hlt => ⟨ok.1, ok.2.1, hn g hlt ok.2.2⟩), fun j hj => hn j (World.ownsRow.lt h2 j hj).2 (h4 j hj)⟩
  rcases hb : vl.ownBlock with _ | j
  · exact .inl rfl
  · exact .inr fun e => h4 j hb e.symm
theorem LnU.below {w w' : World} {base : Nat} {vl vu : Value} {L : List Ln} (h : LnU w base vl L vu) (hb : Below w.heap.size w w') : LnU w' base vl L vu :=
  h.used (grown_none (below_gr hb)) (.inl rfl)
theorem LnU.line {w w' : World} {base : Nat} {vl vl' vu : Value} {L : List Ln} {x : Ln} {vs : List (Int × Value)} {y : Int × Value} (h1 : vs.length = L.length) (h3 : ∀ i, i < vs.length → LnAt w vs[i]! L[i]! (fun g => base ≤ g ∧ vl.ownBlock ≠ some g ∧ vu.ownBlock ≠ some g))
    (k3 : LnAt w y x (fun g => base ≤ g ∧ vl.ownBlock ≠ some g ∧ vu.ownBlock ≠ some g)) (hu : ∀ j, vu.ownBlock = some j → j < w.heap.size) (h4 : ∀ j, vl.ownBlock = some j → vu.ownBlock ≠ some j)
    (ho : Own 41 2 encLn w' base vl' (vs ++ [y])) (hg : w.grownBy w' vl.ownBlock) (hl : vl'.ownBlock = vl.ownBlock ∨ ∃ j, vl'.ownBlock = some j ∧ w.heap.size ≤ j) : LnU w' base vl' (L ++ [x]) vu := by
  have hn : ∀ q, q < w.heap.size → vl.ownBlock ≠ some q → vl'.ownBlock ≠ some q := by
    intro q hq hne e
    rcases hl with hl | ⟨j, hl, hj⟩
    · exact hne (hl ▸ e)
    · rw [hl] at e
      injection e with e
      omega
  refine ⟨_, by simp [h1], ho, fun i hi => ?_, fun j hj e => ?_⟩
  · rw [List.length_append, List.length_singleton] at hi
    by_cases hlt : i < vs.length
    · rw [getApp1 hlt, getApp1 (by omega)]
      exact (h3 i hlt).grown hg (fun g ok _ => ok.2.1) (fun g ok hl => ⟨ok.1, hn g hl ok.2.1, ok.2.2⟩)
    · have hi2 : i = vs.length := by omega
      subst hi2
      rw [getApp2 (Nat.le_refl _), getApp2 (by omega), Nat.sub_self, h1, Nat.sub_self]
      exact k3.grown hg (fun g ok _ => ok.2.1) (fun g ok hl => ⟨ok.1, hn g hl ok.2.1, ok.2.2⟩)
  · rcases hl with hl | ⟨j', hl, hj'⟩
    · exact h4 j (hl ▸ hj) e
    · have := hu j e
      rw [hl] at hj
      injection hj with hj
      omega
end Go.Proofs
/- The reference's Lines. -/
set_option linter.unusedVariables false
set_option linter.unusedSimpArgs false
namespace Go.Proofs
open Go.RowKit Go.Proofs.Mp Go.Lib

/-- a whole list of integers appended to one of the call's own: where the new one lies is told -/
theorem Try.appG {w : World} {base : Nat} {v : Value} {xs ys : List Int} {ops : Array Oper} {rest : List Oper} {o : Oper} {a : Act} {Q : Exit → Act → World → Prop}
    (hown : OwnI 3 w base v xs) {A : Option Addr} {c : Nat} (hR : RdI w A ys) (hne : ys ≠ []) (hgd : o.guard = none) (s x : Operand)
    (ho : o.op = .call { callee := .builtin .append, args := #[s, x], argTypes := #[24, 24] }) (hs : a.eval s = v) (hx : a.eval x = .slice A ys.length c)
    (hN : xs.length + ys.length ≤ 1000000000000) (hbase : base ≤ w.heap.size)
    (h : ∀ v' w', OwnI 3 w' base v' (xs ++ ys) → w.grownBy w' v.ownBlock → (v'.ownBlock = v.ownBlock ∨ ∃ j, v'.ownBlock = some j ∧ w.heap.size ≤ j) → wpList Try.prog ops Q rest (a.put o.dst v') w') :
    wpList Try.prog ops Q (o :: rest) a w := by
  obtain ⟨i0, hi, hz0, hz1, hz2⟩ := Mp.info_parts Try.infoI
  obtain ⟨ad, rfl, hc⟩ := Rd.flat encI_len (by decide) hR hne
  refine wpList_append_own_at w hgd s x 24 ho base 3 i0 (.int .i64 0) 1 8 Try.underlying24 hi hz0 hz1 hz2 rfl (by decide) v xs.length (xs.flatMap Mp.encI) hs hown ad ys.length c (ys.flatMap Mp.encI) hx (flat_len encI_len ys) hc ?_ (by unfold maxLen; omega) (by omega) hbase ?_
  · intro u hu
    obtain ⟨y, _, hy⟩ := List.mem_flatMap.1 hu
    exact encI_one y u hy
  · intro v' w' ho' hg _ hl
    refine h v' w' ?_ hg (hl.imp id fun e => ⟨_, e, Nat.le_refl _⟩)
    show w'.ownsRow base 3 1 v' (xs ++ ys).length ((xs ++ ys).flatMap Mp.encI)
    simpa using ho'
/-- a line appended -/
theorem Try.appU {w : World} {base : Nat} {v vu : Value} {L : List Ln} {U : List Int} {ops : Array Oper} {rest : List Oper} {o : Oper} {a : Act} {Q : Exit → Act → World → Prop}
    (hown : LnU w base v L vu) (hu : OwnI 3 w base vu U) (lv : Int) (pts : List Pt) (g cap : Nat) (hl : LnAt w (lv, .slice (some ⟨g, 0, none⟩) pts.length cap) (lv, pts) (fun g => base ≤ g ∧ v.ownBlock ≠ some g ∧ vu.ownBlock ≠ some g)) (hgd : o.guard = none) (s x : Operand)
    (ho : o.op = .call { callee := .builtin .append, args := #[s, x], argTypes := #[32, 32] }) (hs : a.eval s = v) (hx : a.eval x = .slice (some ⟨w.heap.size, 0, none⟩) 1 1)
    (hN : L.length + 1 ≤ 1000000000) (hbase : base ≤ w.heap.size)
    (h : ∀ v' w', LnU w' base v' (L ++ [(lv, pts)]) vu → OwnI 3 w' base vu U → Below base w w' → wpList Try.prog ops Q rest (a.put o.dst v') w') :
    wpList Try.prog ops Q (o :: rest) a (w.alloc (.cells #[.int .i64 lv, .slice (some ⟨g, 0, none⟩) pts.length cap] 41)) := by
  obtain ⟨vs, h1, h2, h3, h4⟩ := hown
  obtain ⟨i0, hi, hz0, hz1, hz2⟩ := Mp.info_parts Try.infoLn
  exact OwnA.append1 (av := fun _ => False) (enc := encLn) 32 i0 (.agg #[.int .i64 0, .slice none 0 0]) 32 Try.underlying32 hi hz0 hz1 hz2 rfl (by decide) (by decide) encLn_len (lv, .slice (some ⟨g, 0, none⟩) pts.length cap) (fun u hu => by
      simp only [encLn, List.mem_cons, List.not_mem_nil, or_false] at hu
      rcases hu with rfl | rfl <;> rfl) hgd s x ho ⟨h2, fun _ _ h => h⟩ (fun _ h => h.elim) hs hx (by omega) hbase
    (fun v' w' ho' hg' hl' => h v' w' (LnU.line (x := (lv, pts)) h1 h3 hl (fun j hj => (World.ownsRow.lt hu j hj).2) h4 ho'.1 hg' hl') (World.ownsRow.kept hu hg' (by
      rcases hb : vu.ownBlock with _ | j
      · exact .inl rfl
      · exact .inr fun e => h4 j e.symm hb)) ((Below.refl _ _).grown hg' hbase (fun j hj => (World.ownsRow.lt h2 j hj).1)))
theorem below_of_used {w w' : World} {base : Nat} {vu : Value} {U : List Int} (hu : OwnI 3 w base vu U) (hbase : base ≤ w.heap.size) (hg : w.grownBy w' vu.ownBlock) : Below base w w' := (Below.refl _ _).grown hg hbase (fun j hj => (World.ownsRow.lt hu j hj).1)
theorem crsL_asc (ab : Nat → Bool) (W H : Nat) : (crsL ab W H).Pairwise (· < ·) := List.pairwise_lt_range.filter _
theorem rep_crs {ab : Nat → Bool} {W H e : Nat} (hW : 1 ≤ W) (h : repB (stepsL ab W H) e = true) : crsB ab W H e = true := by
  have hS := steps_inj (ab := ab) (H := H) hW
  have hd : dom (stepsL ab W H) e = true := by
    unfold repB at h
    rw [Bool.or_eq_true] at h
    rcases h with h | h
    · unfold Mp.start at h; rw [Bool.and_eq_true] at h; exact h.1
    · exact ((cycB_iff hS).1 h).1.dom
  unfold dom at hd
  obtain ⟨k, hk⟩ := Option.isSome_iff_exists.1 hd
  exact (steps_crs ((nx_mem hS).1 hk)).1
theorem chain_crs' {ab : Nat → Bool} {W H e : Nat} (hW : 1 ≤ W) (he : crsB ab W H e = true) : ∀ x ∈ chain (stepsL ab W H) e, crsB ab W H x = true := by
  have hS := steps_inj (ab := ab) (H := H) hW
  intro x hx
  rw [chain_mem hS] at hx
  obtain ⟨j, hj⟩ := hx
  cases j with
  | zero => unfold Mp.itr at hj; injection hj with hj; rw [← hj]; exact he
  | succ j =>
    obtain ⟨c, _, hc⟩ := itr_succ.1 hj
    exact (steps_crs ((nx_mem hS).1 hc)).2
set_option maxRecDepth 100000 in
set_option maxHeartbeats 16000000 in
theorem ref_Lines (t : Ht) (level : Int) (w : World) (hmax : t.v.length ≤ 1000000000000) (hR : RdI w t.a t.v) :
    Calls Try.prog 15 #[aggH t, .int .i64 level] w (RetLE w (linesT t level) (chkH t)) := by
  have hb0 : Below w.heap.size w (w.alloc (.cells (celH t) 26)) := bw1 _ _
  have hs0 : (w.alloc (.cells (celH t) 26)).heap.size = w.heap.size + 1 := by simp
  have hrow0 := RowH.new w t
  have HRow := Lib.hid fun (W' : World) (hb : Below (w.alloc (.cells (celH t) 26)).heap.size (w.alloc (.cells (celH t) 26)) W') => hrow0.below hb
  have cC := Lib.hid (ref_checkH t (w.alloc (.cells (celH t) 26)) hmax (hR.below hb0))
  have HL := Lib.hid (show linesT t level = if chkH t = 0 then linesL t t.w.toNat t.h.toNat level else [] from rfl)
  by_cases h0 : chkH t = 0
  rotate_left
  · obtain ⟨r, hr⟩ : ∃ r, chkH t = r := ⟨_, rfl⟩
    have HL2 := Lib.hid (HL.out.trans (if_neg h0))
    rw [hr] at cC h0 ⊢
    clear HL hR hr
    generalize linesT t level = L at *
    obtain ⟨x, y, tw, th, st, A, cc, v⟩ := t
    unfold aggH celH at *
    dsimp only at *
    obtain ⟨r0, r1, r2, r3, r4, r5⟩ := hrow0.cells
    dsimp only at r0 r1 r2 r3 r4 r5
    go_enter Try.func15, Try.ntmps15
    go_upto_region 1 with fail
    generalize (w.alloc (.cells #[.int .i64 x, .int .i64 y, .int .i64 tw, .int .i64 th, .int .i64 st, .slice A v.length cc] 26)) = wA at *
    go_wp2_with fail
    refine cC.out.mono ?_
    rintro e w1 ⟨rfl, hb1⟩
    have HB1 := Lib.hid (hb0.trans (hb1.mono (by omega)))
    clear r0 r1 r2 r3 r4 r5 hrow0 hb0 hb1 cC HRow
    go_wp2
    go_ret2
    exact ⟨_, rfl, by rw [HL2.out]; exact LnR.nil _ _, HB1.out⟩
  · have g := Grd.of h0
    obtain ⟨a1, a2, a3, a4, a5⟩ := g.all
    clear a5
    have hW1 : 1 ≤ t.w.toNat := by omega
    have hS := steps_inj (ab := abv t level) (H := t.h.toNat) hW1
    have hsm := steps_small g (abv t level)
    have cEd := Lib.hid fun (W' : World) (hb : Below w.heap.size w W') => ref_edges t _ _ level W' g (hR.below hb)
    have cSt := Lib.hid fun (W' : World) (hb : Below w.heap.size w W') => ref_steps t _ _ level W' g (hR.below hb)
    have HL2 := Lib.hid (HL.out.trans (if_pos h0))
    have hEl : (crsL (abv t level) t.w.toNat t.h.toNat).length ≤ 12288 := by
      unfold crsL
      refine Nat.le_trans (List.length_filter_le _ _) ?_
      rw [List.length_range]
      have h5 : 3 * t.w.toNat * t.h.toNat ≤ 3 * 64 * 64 := Nat.mul_le_mul (Nat.mul_le_mul_left 3 a2) a4
      omega
    have HEs := Lib.hid fun k (hk : k < (crsL (abv t level) t.w.toNat t.h.toNat).length) => (show (crsL (abv t level) t.w.toNat t.h.toNat)[k]! ≤ 20000 ∧ crsB (abv t level) t.w.toNat t.h.toNat (crsL (abv t level) t.w.toNat t.h.toNat)[k]! = true from by
      have hm : (crsL (abv t level) t.w.toNat t.h.toNat)[k]! ∈ crsL (abv t level) t.w.toNat t.h.toNat := by rw [getElem!_pos _ k hk]; exact List.getElem_mem _
      have hc := (List.mem_filter.1 hm).2
      have := crs_lt hc
      have h5 : 3 * t.w.toNat * t.h.toNat ≤ 3 * 64 * 64 := Nat.mul_le_mul (Nat.mul_le_mul_left 3 a2) a4
      exact ⟨by omega, hc⟩)
    have HAll := Lib.hid (show rlL (ptE t t.w.toNat level) level (stepsL (abv t level) t.w.toNat t.h.toNat) (crsL (abv t level) t.w.toNat t.h.toNat) (crsL (abv t level) t.w.toNat t.h.toNat).length = linesL t t.w.toNat t.h.toNat level from rlL_all (fun e he => rep_crs hW1 he))
    have HNot := Lib.hid fun k => usL_not (k := k) hS (crsL_asc (abv t level) t.w.toNat t.h.toNat)
    have HNo := Lib.hid fun k => @rlL_no (ptE t t.w.toNat level) level (stepsL (abv t level) t.w.toNat t.h.toNat) (crsL (abv t level) t.w.toNat t.h.toNat) k
    have HYes := Lib.hid fun k => @rlL_yes (ptE t t.w.toNat level) level (stepsL (abv t level) t.w.toNat t.h.toNat) (crsL (abv t level) t.w.toNat t.h.toNat) k
    have HUl := Lib.hid fun k => usL_len (E := crsL (abv t level) t.w.toNat t.h.toNat) hS hsm k
    have HRl := Lib.hid fun k => rlL_len (f := ptE t t.w.toNat level) (lv := level) (S := stepsL (abv t level) t.w.toNat t.h.toNat) (E := crsL (abv t level) t.w.toNat t.h.toNat) k
    have HR0 := Lib.hid (show rlL (ptE t t.w.toNat level) level (stepsL (abv t level) t.w.toNat t.h.toNat) (crsL (abv t level) t.w.toNat t.h.toNat) 0 = [] from rfl)
    have HU0 := Lib.hid (show usL (stepsL (abv t level) t.w.toNat t.h.toNat) (crsL (abv t level) t.w.toNat t.h.toNat) 0 = [] from rfl)
    have cFi := Lib.hid fun (e : Nat) (A1 : Option Addr) (c1 : Nat) (W' : World) (he : e ≤ 20000) => ref_first (stepsL (abv t level) t.w.toNat t.h.toNat) e A1 c1 W' hS hsm he
    have cCh := Lib.hid fun (e : Nat) (A1 : Option Addr) (c1 : Nat) (W' : World) (he : e ≤ 20000) => ref_chain (stepsL (abv t level) t.w.toNat t.h.toNat) e A1 c1 W' hS hsm he
    have cPa := Lib.hid fun (e : Nat) (A1 : Option Addr) (c1 : Nat) (W' : World) (he : crsB (abv t level) t.w.toNat t.h.toNat e = true) (hl : (chain (stepsL (abv t level) t.w.toNat t.h.toNat) e).length ≤ 100000) (hb : Below w.heap.size w W') => ref_path t _ _ level (chain (stepsL (abv t level) t.w.toNat t.h.toNat) e) A1 c1 W' g (chain_crs' hW1 he) hl (hR.below hb)
    have HCl := Lib.hid fun e => (show (chain (stepsL (abv t level) t.w.toNat t.h.toNat) e).length ≤ 100000 from by have := chain_len_le hS e; have := hsm.1; omega)
    have HLo := Lib.hid fun e => (show lineOf (ptE t t.w.toNat level) level (chain (stepsL (abv t level) t.w.toNat t.h.toNat) e) = if 1 < (cmpL ((chain (stepsL (abv t level) t.w.toNat t.h.toNat) e).map (ptE t t.w.toNat level))).length then [(level, cmpL ((chain (stepsL (abv t level) t.w.toNat t.h.toNat) e).map (ptE t t.w.toNat level)))] else [] from rfl)
    have hSl := hsm.1
    rw [h0] at cC ⊢
    clear HL hR a1 a2 a3 a4 hW1 hS hsm g h0
    generalize linesT t level = L at *
    generalize linesL t t.w.toNat t.h.toNat level = L' at *
    generalize lineOf (ptE t t.w.toNat level) level = lo at *
    generalize rlL (ptE t t.w.toNat level) level (stepsL (abv t level) t.w.toNat t.h.toNat) (crsL (abv t level) t.w.toNat t.h.toNat) = RL at *
    generalize usL (stepsL (abv t level) t.w.toNat t.h.toNat) (crsL (abv t level) t.w.toNat t.h.toNat) = US at *
    generalize ptE t t.w.toNat level = pf at *
    generalize crsL (abv t level) t.w.toNat t.h.toNat = E at *
    generalize crsB (abv t level) t.w.toNat t.h.toNat = CR at *
    generalize stepsL (abv t level) t.w.toNat t.h.toNat = S at *
    obtain ⟨x, y, tw, th, st, A, cc, v⟩ := t
    unfold aggH celH at *
    dsimp only at *
    obtain ⟨r0, r1, r2, r3, r4, r5⟩ := hrow0.cells
    dsimp only at r0 r1 r2 r3 r4 r5
    go_enter Try.func15, Try.ntmps15
    go_upto_region 1 with fail
    generalize (w.alloc (.cells #[.int .i64 x, .int .i64 y, .int .i64 tw, .int .i64 th, .int .i64 st, .slice A v.length cc] 26)) = w0 at *
    have HB0 := Lib.hid hb0
    clear hb0 hrow0
    go_wp2_with fail
    refine cC.out.mono ?_
    rintro e w1 ⟨rfl, hb1⟩
    clear r0 r1 r2 r3 r4 r5 cC
    have HB1 := Lib.hid hb1
    clear hb1
    go_upto_region 4 with fail
    have hS0 : (fun W' : World => Below w0.heap.size w0 W') w1.drew := HB1.out.drew
    have HWz := Lib.hid fun (W' : World) (hb : Below w0.heap.size w0 W') => (HB0.out.trans (hb.mono (by omega)) : Below w.heap.size w W')
    clear HB1
    refine wp_region_held_drew (S := (fun W' : World => Below w0.heap.size w0 W')) (by kernel_rfl) hS0 (fun hHeld => ?_)
    clear hHeld
    generalize w1.drew = wzra at *
    refine wpAnyH_take (i := 0) (oi := ⟨some 19, _, _, _, _, _⟩) (v := ?vra1) rfl (by kernel_rfl) (by kernel_rfl) (by kernel_rfl) (fun _ _ _ h => h) (Or.inl ⟨by kernel_rfl, ?hyra1⟩) (by assumption) ?restra1
    case hyra1 => (intro W hSw; obtain ⟨d0, d1, d2, d3, d4, d5⟩ := (HRow.out W hSw).cells; dsimp only at d0 d1 d2 d3 d4 d5; (try dsimp only at hSw); go_simp; try with_reducible rfl)
    case' restra1 => try simp only [Act.put, List.setIfInBounds_toArray, List.set_cons_zero, List.set_cons_succ]
    refine wpAnyH_take (i := 1) (oi := ⟨some 20, _, _, _, _, _⟩) (v := ?vra2) rfl (by kernel_rfl) (by kernel_rfl) (by kernel_rfl) (fun _ _ _ h => h) (Or.inl ⟨by kernel_rfl, ?hyra2⟩) (by assumption) ?restra2
    case hyra2 => (intro W hSw; (try dsimp only at hSw); go_simp; try with_reducible rfl)
    case' restra2 => try simp only [Act.put, List.setIfInBounds_toArray, List.set_cons_zero, List.set_cons_succ]
    refine wpAnyH_take (i := 3) (oi := ⟨some 22, _, _, _, _, _⟩) (v := ?vra3) rfl (by kernel_rfl) (by kernel_rfl) (by kernel_rfl) (fun _ _ _ h => h) (Or.inl ⟨by kernel_rfl, ?hyra3⟩) (by assumption) ?restra3
    case hyra3 => (intro W hSw; obtain ⟨d0, d1, d2, d3, d4, d5⟩ := (HRow.out W hSw).cells; dsimp only at d0 d1 d2 d3 d4 d5; (try dsimp only at hSw); go_simp; try with_reducible rfl)
    case' restra3 => try simp only [Act.put, List.setIfInBounds_toArray, List.set_cons_zero, List.set_cons_succ]
    refine wpAnyH_take (i := 4) (oi := ⟨some 23, _, _, _, _, _⟩) (v := ?vra4) rfl (by kernel_rfl) (by kernel_rfl) (by kernel_rfl) (fun _ _ _ h => h) (Or.inl ⟨by kernel_rfl, ?hyra4⟩) (by assumption) ?restra4
    case hyra4 => (intro W hSw; (try dsimp only at hSw); go_simp; try with_reducible rfl)
    case' restra4 => try simp only [Act.put, List.setIfInBounds_toArray, List.set_cons_zero, List.set_cons_succ]
    refine wpAnyH_ready (rs := [2]) (by kernel_rfl) (by simp) ?_
    refine AllReadyH.cons (o := ⟨some 21, _, _, _, _, _⟩) rfl (fun K hK => ?_) AllReadyH.nil
    go_simp
    go_at_call 21
    refine (cEd.out _ (HWz.out _ hS0)).mono ?_
    rintro e9 Wra1 ⟨A1, c1, rfl, hE, hb⟩
    have hSWra1 := hS0.trans (hb.mono hS0.size)
    clear hb
    try clear hS0
    go_wp2_with fail
    refine hK.out _ _ hSWra1 (fun hHeld => ?_)
    clear hK hHeld K
    try simp only [Act.put, List.setIfInBounds_toArray, List.set_cons_zero, List.set_cons_succ]
    refine wpAnyH_ready (rs := [5]) (by kernel_rfl) (by simp) ?_
    refine AllReadyH.cons (o := ⟨some 24, _, _, _, _, _⟩) rfl (fun K hK => ?_) AllReadyH.nil
    go_simp
    go_at_call 29
    refine (cSt.out _ (HWz.out _ hSWra1)).mono ?_
    rintro e9 Wra2 ⟨A2, c2, rfl, hT, hb⟩
    replace hE := hE.below hb
    have hSWra2 := hSWra1.trans (hb.mono hSWra1.size)
    clear hb
    try clear hSWra1
    go_wp2_with fail
    refine hK.out _ _ hSWra2 (fun hHeld => ?_)
    clear hK hHeld K
    try simp only [Act.put, List.setIfInBounds_toArray, List.set_cons_zero, List.set_cons_succ]
    refine wpAnyH_take (i := 6) (oi := ⟨some 7, _, _, _, _, _⟩) (v := ?vra5) rfl (by kernel_rfl) (by kernel_rfl) (by kernel_rfl) (fun _ _ _ h => h) (Or.inl ⟨by kernel_rfl, ?hyra5⟩) (by assumption) ?restra5
    case hyra5 => (intro W hSw; (try dsimp only at hSw); go_simp; try with_reducible rfl)
    case' restra5 => try simp only [Act.put, List.setIfInBounds_toArray, List.set_cons_zero, List.set_cons_succ]
    refine wpAnyH_take (i := 7) (oi := ⟨some 8, _, _, _, _, _⟩) (v := ?vra6) rfl (by kernel_rfl) (by kernel_rfl) (by kernel_rfl) (fun _ _ _ h => h) (Or.inl ⟨by kernel_rfl, ?hyra6⟩) (by assumption) ?restra6
    case hyra6 => (intro W hSw; (try dsimp only at hSw); go_simp; try with_reducible rfl)
    case' restra6 => try simp only [Act.put, List.setIfInBounds_toArray, List.set_cons_zero, List.set_cons_succ]
    refine wpAnyH_done (by kernel_rfl) ?_ _
    rw [ci_len, stI_len]
    have HE := Lib.hid fun (W' : World) (hb : Below Wra2.heap.size Wra2 W') => hE.below hb
    have HSt := Lib.hid fun (W' : World) (hb : Below Wra2.heap.size Wra2 W') => hT.below hb
    have HBz := Lib.hid hSWra2
    clear hE hT hSWra2 cEd cSt
    generalize Wra2 = w2 at *
    have HRw := Lib.hid fun (W' : World) (hb : Below w2.heap.size w2 W') => HRow.out W' (HBz.out.trans (hb.mono HBz.out.size))
    have HWy := Lib.hid fun (W' : World) (hb : Below w2.heap.size w2 W') => HWz.out W' (HBz.out.trans (hb.mono HBz.out.size))
    have hsz2 := (HWy.out w2 (Below.refl _ _)).size
    clear HRow HWz HBz HB0
    go_upto_block 0 with fail
    go_wp2_with fail
    go_loopw [9, 10, 11] (fun s9 s10 i wr => ∃ k : Nat, k ≤ E.length ∧ i = .int .i64 k ∧ LnU wr w2.heap.size s9 (RL k) s10 ∧ OwnI 3 wr w2.heap.size s10 (ci (US k)) ∧ Below w2.heap.size w2 wr) (fun _ _ i _ => E.length - (intOf i).toNat)
    case atStart => exact ⟨0, by omega, rfl, by rw [HR0.out]; exact LnU.nil _ _ _, by rw [HU0.out]; exact Own.nil _ _, Below.refl _ _⟩
    case round =>
      obtain ⟨k, hk, rfl, kl, ku, kb⟩ := hrel
      have HLk := Lib.hid kl
      have HUk := Lib.hid ku
      have HBk := Lib.hid kb
      clear kl ku kb
      generalize wr = wa at *
      by_cases hlt : k < E.length
      rotate_left
      · have hkn : E.length = k := by omega
        have HF := Lib.hid (show L = RL k by rw [HL2.out, ← HAll.out, hkn])
        have hge : ¬ ((k : Int) < (E.length : Int)) := by omega
        clear hkn
        go_wp2
        go_ret2
        exact ⟨_, rfl, by rw [HF.out]; exact HLk.out.lnR.mono hsz2, HWy.out _ HBk.out⟩
      · have hli : (k : Int) < (E.length : Int) := by omega
        obtain ⟨b, off, rfl, hbl, c1⟩ := RdI.get (HE.out _ HBk.out) (Below.refl _ _) (j := k) (by rw [ci_len]; exact hlt)
        rw [ci_get hlt] at c1
        obtain ⟨hes, hec⟩ := HEs.out k hlt
        have hN1 := HNot.out k hlt
        have hN2 := HNo.out k hlt
        have hY2 := HYes.out k hlt
        obtain ⟨e, he⟩ : ∃ e, E[k]! = e := ⟨_, rfl⟩
        rw [he] at c1 hes hec hN1 hN2 hY2
        have HN1 := Lib.hid hN1
        have HN2 := Lib.hid hN2
        have HY2 := Lib.hid hY2
        have HEC := Lib.hid hec
        have HEg := Lib.hid fun (W' : World) (hb : Below w2.heap.size w2 W') => (show W'.cell? ⟨b, off + k, none⟩ = some (.int .i64 ((e : Nat) : Int)) from by
          obtain ⟨b', off', h1, h2, h3⟩ := RdI.get (HE.out _ hb) (Below.refl _ _) (j := k) (by rw [ci_len]; exact hlt)
          injection h1 with h1
          injection h1 with h1 h4
          subst h1 h4
          rw [ci_get hlt, he] at h3
          exact h3)
        clear he hN1 hN2 hY2 hec
        have hUl := HUl.out k
        have hUl2 : (US k).length ≤ 1000000000000 := by omega
        obtain ⟨AU, cU, rfl⟩ := Own.slice HUk.out
        have HUR := Lib.hid (Own.rd encI_len HUk.out)
        have cHas := Lib.hid (ref_has (ci (US k)) (e : Int) AU cU wa HUR.out (by rw [ci_len]; omega))
        obtain ⟨d, hd⟩ : ∃ d, decide ((e : Int) ∈ ci (US k)) = d := ⟨_, rfl⟩
        rw [hd] at cHas
        have HD := Lib.hid hd
        clear hd
        go_wp2_with fail
        refine cHas.out.mono ?_
        rintro e2 w3 ⟨rfl, hb3⟩
        have HB3 := Lib.hid (HBk.out.trans (hb3.mono HBk.out.size))
        have HL3 := Lib.hid (HLk.out.below hb3)
        have HU3 := Lib.hid (HUk.out.below hb3)
        clear hb3 c1 cHas HUR HBk HLk HUk
        have c1 := HEg.out _ HB3.out
        cases d
        rotate_left
        · have HFf := Lib.hid (HN2.out (HN1.out (by
            have := of_decide_eq_true HD.out
            unfold ci at this
            obtain ⟨z, hz, hze⟩ := List.mem_map.1 this
            obtain rfl : z = e := by omega
            exact hz)))
          go_wp2
          go_roundw
          case rel => exact ⟨k + 1, by omega, by go_num, by rw [HFf.out.1]; exact HL3.out, by rw [HFf.out.2]; exact HU3.out, HB3.out⟩
          case measure => simp [intOf]; omega
        · have cF := Lib.hid (cFi.out e A2 c2 w3 hes (HSt.out _ HB3.out))
          go_wp2_with fail
          refine cF.out.mono ?_
          rintro e3 w4 ⟨rfl, hb4⟩
          have HB4 := Lib.hid (HB3.out.trans (hb4.mono HB3.out.size))
          have HL4 := Lib.hid (HL3.out.below hb4)
          have HU4 := Lib.hid (HU3.out.below hb4)
          clear hb4 c1 cF HB3 HL3 HU3
          have c1 := HEg.out _ HB4.out
          obtain ⟨q, hq⟩ : ∃ q, firstB S e = q := ⟨_, rfl⟩
          have HQ := Lib.hid hq
          rw [hq] at HN2 HY2 ⊢
          clear hq
          cases q
          · have HFf := Lib.hid (HN2.out rfl)
            go_wp2
            go_roundw
            case rel => exact ⟨k + 1, by omega, by go_num, by rw [HFf.out.1]; exact HL4.out, by rw [HFf.out.2]; exact HU4.out, HB4.out⟩
            case measure => simp [intOf]; omega
          · have HFt := Lib.hid (HY2.out rfl)
            have cC4 := Lib.hid (cCh.out e A2 c2 w4 hes (HSt.out _ HB4.out))
            have hCl := HCl.out e
            have cPe := Lib.hid fun (A1 : Option Addr) (c1 : Nat) (W' : World) (hb : Below w.heap.size w W') => cPa.out e A1 c1 W' HEC.out hCl hb
            have HLoe := Lib.hid (HLo.out e)
            have HCne := Lib.hid (show chain S e ≠ [] from chain_ne)
            generalize chain S e = C at *
            go_wp2_with fail
            refine cC4.out.mono ?_
            rintro e4 w5 ⟨v6, rfl, hO6, hb5⟩
            have HB5 := Lib.hid (HB4.out.trans (hb5.mono HB4.out.size))
            have HL5 := Lib.hid (HL4.out.below hb5)
            have HU5 := Lib.hid (HU4.out.below hb5)
            have hcne : ci C ≠ [] := fun h => HCne.out (by simpa [ci] using h)
            obtain ⟨g6, c6, rfl, hg6, hl6, hR6⟩ := own_at hO6 hcne
            have hlt6 := fun j hj => (World.ownsRow.lt HU4.out j hj).2
            have hne6 : (Value.slice AU (ci (US k)).length cU).ownBlock ≠ some g6 := fun e => by have := hlt6 g6 e; omega
            clear hb5 c1 HB4 HL4 HU4 cC4 hO6 hlt6
            have hbs5 := HB5.out.size
            have hlen5 : (ci (US k)).length + (ci C).length ≤ 1000000000000 := by rw [ci_len, ci_len]; omega
            have HC5 := Lib.hid (And.intro hcne hlen5)
            have HN6 := Lib.hid hne6
            clear hcne hlen5 hne6
            go_wp2_with (refine Try.appG HU5.out hR6 HC5.out.1 rfl _ _ rfl rfl rfl HC5.out.2 hbs5 ?_; intro v7 w7 ho7 hg7 hl7; have hB7 := HB5.out.trans (below_of_used HU5.out hbs5 hg7); obtain ⟨r0, r1, r2, r3, r4, r5⟩ := (HRw.out _ hB7).cells; dsimp only at r0 r1 r2 r3 r4 r5)
            have HU7 := Lib.hid (show OwnI 3 w7 w2.heap.size v7 (ci (US (k + 1))) by rw [HFt.out.2, ci_app]; exact ho7)
            have HL7 := Lib.hid (HL5.out.used hg7 hl7)
            have HR7 := Lib.hid (RdI.grown hR6 hg7 hl6 HN6.out)
            have HB7 := Lib.hid hB7
            clear ho7 hg7 hl7 hR6 HU5 HL5 HB5 HC5 HN6 hB7
            rw [ci_len]
            refine (cPe.out _ c6 w7 (HWy.out _ HB7.out) HR7.out).mono ?_
            rintro e7 w8 ⟨v8, rfl, hO8, hb8⟩
            have HB8 := Lib.hid (HB7.out.trans (hb8.mono HB7.out.size))
            have HL8 := Lib.hid (HL7.out.below hb8)
            have HU8 := Lib.hid (HU7.out.below hb8)
            have HFo := Lib.hid (show RL (k + 1) = RL k ++ lo C from HFt.out.1)
            rw [HLoe.out] at HFo
            generalize cmpL (C.map pf) = pts at *
            obtain ⟨A8, c8, rfl⟩ := Own.slice hO8
            have hRl := HRl.out k
            by_cases hp : 1 < pts.length
            · have hpi : (1 : Int) < (pts.length : Int) := by omega
              have HFp := Lib.hid (HFo.out.trans (by rw [if_pos hp]))
              have hA8 : ∃ g8, A8 = some ⟨g8, 0, none⟩ := by
                rcases hO8.2 with ⟨e, h0⟩ | ⟨g', cap', cur, e, _⟩
                · rw [h0] at hp; simp at hp
                · injection e with e1 e2 e3
                  exact ⟨g', e1⟩
              obtain ⟨g8, rfl⟩ := hA8
              obtain ⟨_, hg8, hl8, _, _⟩ := RowC.of_own hO8
              obtain ⟨vs, hvs1, hvs2, hvs3, hvs4⟩ := HL7.out
              have hat : LnAt w8 (level, .slice (some ⟨g8, 0, none⟩) pts.length c8) (level, pts) (fun g => w2.heap.size ≤ g ∧ u9.ownBlock ≠ some g ∧ v7.ownBlock ≠ some g) :=
                ⟨g8, c8, rfl, ⟨Nat.le_trans HB7.out.size hg8, fun e => by have := (World.ownsRow.lt hvs2 g8 e).2; omega, fun e => by have := (World.ownsRow.lt HU7.out g8 e).2; omega⟩, hl8, Own.rd encR_len hO8⟩
              have HAt := Lib.hid hat
              have hbs8 := HB8.out.size
              have hln : (RL k).length + 1 ≤ 1000000000 := by omega
              have HLn := Lib.hid hln
              clear hat hvs1 hvs2 hvs3 hvs4 hO8 hb8 hp hg8 hln hRl r0 r1 r2 r3 r4 r5
              go_wp2_with (refine Try.appU HL8.out HU8.out level pts g8 c8 HAt.out rfl _ _ rfl rfl rfl HLn.out hbs8 ?_; intro v9 w9 ho9 hu9 hb9)
              rw [← HFp.out] at ho9
              have HL9 := Lib.hid ho9
              have HU9 := Lib.hid hu9
              have HB9 := Lib.hid (HB8.out.trans hb9)
              clear ho9 hu9 hb9
              go_roundw
              case rel => exact ⟨k + 1, by omega, by go_num, HL9.out, HU9.out, HB9.out⟩
              case measure => simp [intOf]; omega
            · have hpi : ¬ (1 : Int) < (pts.length : Int) := by omega
              have HFp := Lib.hid (HFo.out.trans (by rw [if_neg hp, List.append_nil]))
              clear hO8 hb8 hp hRl r0 r1 r2 r3 r4 r5
              go_wp2
              go_roundw
              case rel => exact ⟨k + 1, by omega, by go_num, by rw [HFp.out]; exact HL8.out, HU8.out, HB8.out⟩
              case measure => simp [intOf]; omega

end Go.Proofs
