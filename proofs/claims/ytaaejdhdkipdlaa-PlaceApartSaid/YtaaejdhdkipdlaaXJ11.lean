/- The program's Best. -/
import Derived.Test.YtaaejdhdkipdlaaXJ10
import Derived.Deep.QuietTactic
set_option linter.unusedVariables false
set_option linter.unusedSimpArgs false
namespace Go.Proofs
open Go.RowKit Go.Proofs.Mp Go.Proofs.Uf Go.Maps

theorem flat_repS : ∀ n : Nat, List.replicate n nilS = (List.replicate n nilS).flatMap encV
  | 0 => rfl
  | n + 1 => by
    rw [List.replicate_succ, List.flatMap_cons, ← flat_repS n]; rfl
theorem Try.makeS {w : World} {ops : Array Oper} {rest : List Oper} {o : Oper} {a : Act} {Q : Exit → Act → World → Prop}
    (hg : o.guard = none) (l c : Operand) (hop : o.op = Op.makeSlice 37 l c) (kl kc : IntKind) (L C : Int) (n : Nat) (hl : a.eval l = .int kl L) (hc : a.eval c = .int kc C) (hL : L = (n : Int)) (hC : C = (n : Int)) (hn : n ≤ 1000000000)
    (hK : ∀ w', Own 23 1 encV w' w.heap.size (.slice (some ⟨w.heap.size, 0, none⟩) n n) (List.replicate n nilS) → Below w.heap.size w w' → wpList Try.prog ops Q rest (a.put o.dst (.slice (some ⟨w.heap.size, 0, none⟩) n n)) w') :
    wpList Try.prog ops Q (o :: rest) a w := by
  obtain ⟨i0, hi, hz0, hz1, hz2⟩ := Mp.info_parts Try.infoS
  refine wpList_make_full w hg l c 37 hop w.heap.size 23 i0 _ 1 Try.underlying37 hi hz0 hz1 kl kc L C n hl hc hL hC (by rw [hz2]; omega) (by unfold maxLen; omega) (Nat.le_refl _) ?_
  intro w' ho hgr
  refine hK w' ?_ ((Below.refl _ _).grown hgr (Nat.le_refl _) (fun k hk => by cases hk))
  unfold Own
  rw [List.length_replicate]
  have e : (madeCells (Value.slice none 0 0).cells (n * 1)).toList = (List.replicate n nilS).flatMap encV := by
    rw [Nat.mul_one, show (Value.slice none 0 0).cells = #[.slice none 0 0] from rfl, toList_madeCells_one]
    exact flat_repS n
  rw [e] at ho
  exact ho
theorem Mp.Nest.avoid {te ti : TypeId} {w : World} {base : Nat} {av : Nat → Prop} {vout : Value} {gs : List (List Int)} (h : Nest te ti w base av vout gs) {i : Nat} (h1 : vout.ownBlock = some i) : ¬ av i := by
  obtain ⟨vs, _, h2, _⟩ := h
  exact h2.2 i h1
set_option maxRecDepth 100000 in
set_option maxHeartbeats 8000000 in
theorem place_best (u v : Value) (l : List Cand) (order : List Int) (steps : Int) (w : World) (hl : l.length ≤ 1000) (ho : order.length ≤ 1000) (hwf : wfs (feats l)) (hwo : wfs order) (hu : SlC w u l) (hv : SlI w v order) :
    Calls Try.prog 22 #[u, v, .int .i64 steps] w (PostS w (bestL l order steps)) := by
  have hdl := distL_len order
  have hmm := @run_makeMap Try.prog
  obtain ⟨i0, hi, hz0, hz1, hz2⟩ := Mp.info_parts Try.infoI
  have HWY := Lib.hid (fun z hz => hwo z (distL_sub order z hz))
  have HWO : Hid (∀ ids ∈ ownR l order, wfs ids) := Lib.hid (fun ids hid z hz => by
    unfold ownR at hid
    obtain ⟨g, _, rfl⟩ := List.mem_map.1 hid
    exact hwo z (distL_sub order z (List.mem_filter.1 hz).1))
  have HRL : Hid (∀ ids ∈ ownR l order, ids.length ≤ 1000) := Lib.hid (fun ids hid => by
    unfold ownR at hid
    obtain ⟨g, _, rfl⟩ := List.mem_map.1 hid
    exact Nat.le_trans (List.length_filter_le _ _) (by omega))
  have CD := Lib.hid (fun (W : World) (hb' : Below w.heap.size w W) => place_distinct v order W ho hwo (hv.below hb'))
  have CE := Lib.hid (fun (W : World) (hb' : Below w.heap.size w W) (ids : List Int) (x : Value) (h1 : ids.length ≤ 1000) (h2 : wfs ids) (h3 : SlI W x ids) => place_exact u x l ids steps W hl h1 hwf h2 (hu.below hb') h3)
  have CG := Lib.hid (fun (W : World) (hb' : Below w.heap.size w W) (ids : List Int) (x : Value) (h1 : ids.length ≤ 1000) (h2 : wfs ids) (h3 : SlI W x ids) => place_greedy u x l ids W hl h1 hwf h2 (hu.below hb') h3)
  have HPL := Lib.hid (partL_len l steps)
  obtain ⟨A, ca, rfl, hca, hR⟩ := hu
  have CC := Lib.hid (fun (W : World) (hb' : Below w.heap.size w W) => clusters_any A ca l W hca hl (hR.below hb') hwf)
  have HDJ := Lib.hid (cls_disj l)
  obtain ⟨hfew1, hfew2⟩ := cls_few l
  have HFW := Lib.hid hfew2
  have HCW : Hid (∀ (n : Nat) (z : Int), z ∈ (cls l)[n]! → (Lit.int .i64 z).wf = true) := Lib.hid (fun n z hz => hwf z (cls_feats hz))
  have HRA := Lib.hid (rowsK_all l order)
  have HBR : Hid (bestL l order steps = ((ownR l order).flatMap (partL l steps)).mergeSort fun x y => decide (x ≤ y)) := Lib.hid (bestL_sort l order steps)
  have CC : Hid (∀ W, Below w.heap.size w W → Calls Try.prog 24 #[.slice A l.length ca] W (fun e w' => ∃ v, e = .returned v ∧ Nest 23 3 w' W.heap.size (fun _ => False) v (cls l) ∧ Below W.heap.size W w')) := CC
  have horl : (ownR l order).length = (cls l).length := by simp [ownR]
  generalize bestL l order steps = bst at *
  generalize ownR l order = OR at *
  generalize cls l = gs at *
  generalize distL order = F at *
  have hM0 := MapV.made (P := Try.prog) (k := 3) w
  have hb0 : Below w.heap.size w (w.alloc (.map #[] 0)) := bw1 _ _
  clear hfew2 hwf hwo hR hv
  go_enter Try.func22, Try.ntmps22
  go_wp2_with fail
  refine (CC.out _ hb0).mono ?_
  rintro e w1 ⟨v1, rfl, hN, hb1⟩
  clear CC
  have hM1 := hM0.below hb1
  have k1 := hb0.trans (hb1.mono (by simp))
  have hsz1 : w.heap.size + 1 ≤ w1.heap.size := by have := hb1.size; simp at this; omega
  clear hM0 hb0 hb1
  obtain ⟨vs, n1, n2, n3⟩ := hN
  obtain ⟨A1, c1, rfl⟩ := Own.slice n2.1
  rw [n1] at n2 ⊢
  have HO := Lib.hid (fun (W : World) (hg : w1.grownBy W (some w.heap.size)) => Own.rd encV_len (n2.kept hg (own_base_ne n2 (by simp))).1)
  have HI := Lib.hid (fun (W : World) (hg : w1.grownBy W (some w.heap.size)) (i : Nat) (hi : i < gs.length) => ((n3 i (by omega)).kept hg (own_base_ne (n3 i (by omega)) (by simp))).1)
  have HN1 := Lib.hid n1
  clear n1 n2 n3
  have hNN : (cpairs gs 0 0).length = 0 := by simp [cpairs]
  have hM1' : MapV Try.prog 3 w1 w.heap.size (cpairs gs 0 0).length (cmap (cpairs gs 0 0)) := by
    rw [show cpairs gs 0 0 = [] by simp [cpairs]]; exact hM1
  clear hM1 hNN
  go_wp2_with fail
  go_loopw [27] (fun i wr => ∃ k : Nat, k ≤ gs.length ∧ i = .int .i64 k ∧ MapV Try.prog 3 wr w.heap.size (cpairs gs k 0).length (cmap (cpairs gs k 0)) ∧ w1.grownBy wr (some w.heap.size)) (fun i _ => gs.length - (intOf i).toNat)
  case atStart => exact ⟨0, Nat.zero_le _, rfl, hM1', World.grownBy.refl _ _⟩
  case round =>
    clear hM1'
    obtain ⟨k, hk, rfl, hM, hg⟩ := hrel
    by_cases hlt : k < gs.length
    · have hd : decide (k < gs.length) = true := decide_eq_true hlt
      obtain ⟨ni, ci, hvk⟩ := Own.slice (HI.out wr hg k hlt)
      obtain ⟨b, off, rfl, hb, hcO⟩ := Rd.get (HO.out wr hg) (Below.refl _ _) (j := k) (by rw [HN1.out]; exact hlt)
      have g1 : wr.cell? ⟨b, off + k, none⟩ = some (.slice ni gs[k]!.length ci) := by
        have := hcO k (by rw [HN1.out]; exact hlt) 0 _ rfl
        rw [hvk] at this
        simpa using this
      have HIK := Lib.hid (fun (W : World) (hg : w1.grownBy W (some w.heap.size)) => (by have := HI.out W hg k hlt; rw [hvk] at this; exact Own.rd encI_len this : RdI W ni gs[k]!))
      have hrl := HFW.out k
      have HCK := Lib.hid (HCW.out k)
      have HST := Lib.hid (fun (j : Nat) (h : j < gs[k]!.length) => cpairs_step (cls := gs) (k := k) h)
      have HRW := Lib.hid (cpairs_row gs k)
      have HLN := Lib.hid (fun j => cpairs_len (M := 1000) (fun n => Nat.le_trans (HFW.out n) hl) k j)
      generalize hge : gs[k]! = g at *
      clear hvk hcO hb hge
      go_wp2_with fail
      clear g1
      go_loopw [34] (fun i wr => ∃ j : Nat, j ≤ g.length ∧ i = .int .i64 j ∧ MapV Try.prog 3 wr w.heap.size (cpairs gs k j).length (cmap (cpairs gs k j)) ∧ w1.grownBy wr (some w.heap.size)) (fun i _ => g.length - (intOf i).toNat)
      case atStart => exact ⟨0, Nat.zero_le _, rfl, hM, hg⟩
      case round =>
        clear hM hg
        obtain ⟨j, hj, rfl, hM, hg⟩ := hrel
        by_cases hlj : j < g.length
        · have hd2 : decide (j < g.length) = true := decide_eq_true hlj
          obtain ⟨bi, offi, rfl, hbi, g2⟩ := RdI.get (HIK.out wr hg) (Below.refl _ _) hlj
          have hwz : (Lit.int .i64 g[j]!).wf = true := HCK.out _ (getMem hlj)
          have hst := HST.out j hlj
          have hln := HLN.out j
          obtain ⟨z, hz⟩ : ∃ z, g[j]! = z := ⟨_, rfl⟩
          rw [hz] at g2 hwz hst
          have hkm : k * 1000 ≤ 1000 * 1000 := Nat.mul_le_mul_right _ (by omega)
          have HST2 := Lib.hid hst
          clear hst hz
          obtain ⟨NN, hNN⟩ : ∃ NN, (cpairs gs k j).length = NN := ⟨_, rfl⟩
          rw [hNN] at hM hln
          have HNN := Lib.hid hNN
          clear hNN
          go_wp2_with (at_mapUpdate; refine MapV.store hM rfl _ _ _ rfl Try.underlying51 Try.underlying3 rfl z (.int .i64 (k : Nat)) rfl rfl hwz (M := NN + 1) (.inr (Nat.le_refl _)) (by unfold maxLen; omega) ?_; intro w5 hM5 hg5)
          go_roundw
          case rel => exact ⟨j + 1, by omega, by go_num, by rw [HST2.out, cmap_snoc, List.length_append, HNN.out]; exact hM5, hg.trans hg5⟩
          case measure => simp [intOf]; omega
        · obtain rfl : j = g.length := by omega
          have hd2 : decide (g.length < g.length) = false := decide_eq_false (by omega)
          rw [HRW.out] at hM
          go_wp2
          go_roundw
          case rel => exact ⟨k + 1, by omega, by go_num, hM, hg⟩
          case measure => simp [intOf]; omega
    · obtain rfl : k = gs.length := by omega
      have hd : decide (gs.length < gs.length) = false := decide_eq_false (by omega)
      have hB : w.heap.size < wr.heap.size := hM.lt
      have k2 : Below w.heap.size w wr := k1.grown hg (by omega) (fun j hj => by injection hj with hj; omega)
      have HCS := Lib.hid (fun z => cmap_spec (cpairs gs gs.length 0) z)
      have HCM := Lib.hid (fun (z : Int) (n : Nat) => cpairs_mem (cls := gs) (z := z) (n := n))
      generalize cpairs gs gs.length 0 = prs at *
      clear HO HI HN1 k1 hsz1 hg
      go_wp2_with (at_make; refine Try.makeS rfl _ _ rfl _ _ _ _ gs.length rfl rfl rfl rfl (by omega) ?_; intro w5 hown5 hb5)
      have k5 := k2.trans (hb5.mono k2.size)
      refine (CD.out w5 k5).mono ?_
      rintro e w6 ⟨vF, rfl, hF, hb6⟩
      have hM6 := (hM.below hb5).below hb6
      have k6 := k5.trans (hb6.mono k5.size)
      have hsz5 : wr.heap.size < w5.heap.size := (World.ownsRow.lt hown5 wr.heap.size rfl).2
      have hN6 : Nest 23 3 w6 wr.heap.size (fun j => vF.ownBlock = some j) (.slice (some ⟨wr.heap.size, 0, none⟩) gs.length gs.length) (rowsK gs F 0) := by
        rw [rowsK_zero]
        refine Nest.make ⟨Own.below hown5 hb6, fun j hj hj' => ?_⟩
        have h1 : wr.heap.size = j := by simpa [Value.ownBlock] using hj
        have h2 := (World.ownsRow.lt hF j hj').1
        omega
      have hF6 : OwnI 3 w6 wr.heap.size vF F := Own.mono hF (by omega)
      have hbase : wr.heap.size ≤ w6.heap.size := by have := hb6.size; omega
      obtain ⟨base2, hbb⟩ : ∃ q, wr.heap.size = q := ⟨_, rfl⟩
      rw [hbb] at hN6 hF6 hbase hB ⊢
      clear hown5 hb5 hb6 k5 hF hbb hM k2 CD hsz5
      obtain ⟨AF, cF, rfl⟩ := Own.slice hF6
      go_wp2_with fail
      go_loopw [49] (fun i wr => ∃ k : Nat, k ≤ F.length ∧ i = .int .i64 k ∧ Nest 23 3 wr base2 (fun j => (Value.slice AF F.length cF).ownBlock = some j) (.slice (some ⟨base2, 0, none⟩) gs.length gs.length) (rowsK gs F k) ∧ OwnI 3 wr base2 (.slice AF F.length cF) F ∧ MapV Try.prog 3 wr w.heap.size prs.length (cmap prs) ∧ Below base2 w6 wr) (fun i _ => F.length - (intOf i).toNat)
      case atStart => exact ⟨0, Nat.zero_le _, rfl, hN6, hF6, hM6, Below.refl _ _⟩
      case round =>
        clear hN6 hF6 hM6
        obtain ⟨k, hk, rfl, hN, hF, hM, hbw⟩ := hrel
        have hszr : base2 ≤ wr.heap.size := Nat.le_trans hbase hbw.size
        by_cases hlt : k < F.length
        · have hd : decide (k < F.length) = true := decide_eq_true hlt
          obtain ⟨bf, offf, hAF, hbf, g1⟩ := RdI.get (Own.rd encI_len hF) (Below.refl _ _) hlt
          subst hAF
          have hwz : (Lit.int .i64 F[k]!).wf = true := HWY.out _ (getMem hlt)
          have HNO := Lib.hid (fun h => rowsK_none (gs := gs) hlt h)
          have HSO := Lib.hid (fun (n : Nat) (hn : n < gs.length) h => rowsK_some hlt hn HDJ.out h)
          obtain ⟨z, hz⟩ : ∃ z, F[k]! = z := ⟨_, rfl⟩
          rw [hz] at g1 hwz HNO HSO
          obtain ⟨hs1, hs2⟩ := HCS.out z
          clear hz
          rcases hcm : cmap prs z with _ | val
          · have hnn : ∀ n, n < gs.length → z ∉ gs[n]! := fun n hn hm => hs2 hcm n ((HCM.out z n).2 ⟨hn, hm⟩)
            have hrow := HNO.out hnn
            rw [← hrow] at hN
            have HV1 : Hid ((cmap prs z).getD (.int .i64 0) = .int .i64 0) := Lib.hid (by rw [hcm]; rfl)
            have HV2 : Hid ((cmap prs z).isSome = false) := Lib.hid (by rw [hcm]; rfl)
            clear hnn hrow hs1 hs2 hcm HNO HSO
            go_wp2_with (at_lookup; refine MapV.look_ok hM rfl _ _ rfl Try.underlying51 Try.underlying3 (Try.zero3 _) rfl z rfl hwz HV1.out HV2.out ?_)
            go_roundw
            case rel => exact ⟨k + 1, by omega, by go_num, hN, hF, hM, hbw⟩
            case measure => simp [intOf]; omega
          · obtain ⟨n, hmem, rfl⟩ := hs1 val hcm
            obtain ⟨hn, hmz⟩ := (HCM.out z n).1 hmem
            have HROW := Lib.hid (HSO.out n hn hmz)
            have HV1 : Hid ((cmap prs z).getD (.int .i64 0) = .int .i64 (n : Nat)) := Lib.hid (by rw [hcm]; rfl)
            have HV2 : Hid ((cmap prs z).isSome = true) := Lib.hid (by rw [hcm]; rfl)
            obtain ⟨g0, cap, vi, ni, ci, he, hcap0, hb0, rfl, c5, f5, hIn, hcl5⟩ := hN.get (i := n) (by rw [rowsK_len]; exact hn)
            have hg0 : base2 = g0 := by injection he with he; injection he with he; injection he
            clear he
            subst hg0
            have hrl := rowsK_row_len gs F k n
            have HHC := Lib.hid hcl5
            have HIN2 := Lib.hid hIn.2
            have HLO := Lib.hid (fun j hj => (hIn.lt (j := j) hj).1)
            have HFB : Hid (bf ≠ base2) := Lib.hid (by rintro rfl; exact (hN.avoid (i := bf)) rfl rfl)
            have HFA := Lib.hid hF
            have hdn : decide (n < gs.length) = true := decide_eq_true hn
            obtain ⟨RK, hRK⟩ : ∃ RK, rowsK gs F k = RK := ⟨_, rfl⟩
            obtain ⟨ri, hri⟩ : ∃ ri, RK[n]! = ri := ⟨_, rfl⟩
            rw [hRK] at HHC HROW hrl c5 hIn HIN2 HLO
            rw [hri] at HHC HROW hrl c5 hIn HIN2 HLO
            have h0g : base2 < wr.heap.size := World.block_lt_of_cell? _ _ c5
            have hpos : ∀ j, ((Value.slice (some ⟨bf, offf, none⟩) F.length cF).ownBlock = some j ∨ j = base2) → j < wr.heap.size := fun j hj => by
              rcases hj with hj | rfl
              · exact (World.ownsRow.lt hF j hj).2
              · exact h0g
            clear hs1 hs2 hcm HNO HSO hcl5 hmem hmz hN hRK hri hcap0 hb0
            go_wp2_with (first
              | (at_lookup; refine MapV.look_ok hM rfl _ _ rfl Try.underlying51 Try.underlying3 (Try.zero3 _) rfl z rfl hwz HV1.out HV2.out ?_)
              | (at_builtin; (refine Mp.OwnA.append1 (enc := Mp.encI) 23 i0 (.int .i64 0) 8 Try.underlying23 hi hz0 hz1 hz2 rfl (by decide) (by decide) encI_len z (encI_one _) rfl _ _ rfl hIn hpos rfl rfl (by omega) hszr ?_; clear hIn; intro v5 w5 hown5 hg5 hloc5; obtain ⟨A5, cc5, rfl⟩ := Own.slice hown5.1; have hc5 := hg5.cell c5 (by intro e; exact HIN2.out base2 e.symm (.inr rfl)); have hf5 : w5.frozen? ⟨base2, n, none⟩ = false := (frozen_grown hg5 h0g (by intro e; exact HIN2.out base2 e.symm (.inr rfl))).trans f5)))
            have hN7 := HHC.out _ w5 z hown5 hg5 hloc5
            rw [show (ri ++ [z]).length = ri.length + 1 by simp] at hN7
            have hown0 := fun j hj => (World.ownsRow.lt HFA.out j hj)
            have hbg5 : Below base2 w6 w5 := hbw.grown hg5 hszr (fun j hj => HLO.out j hj)
            have hF7 := World.ownsRow.kept HFA.out hg5 (by
              rcases hq : (Value.slice (some ⟨bf, offf, none⟩) F.length cF).ownBlock with _ | q
              · exact .inl rfl
              · right; intro e; exact HIN2.out q e.symm (.inl hq))
            have hF8 : OwnI 3 (w5.setCell ⟨base2, n, none⟩ (.slice A5 (ri.length + 1) cc5)) base2 (.slice (some ⟨bf, offf, none⟩) F.length cF) F := ownsRow_setCell_other hF7 (by
              intro e
              exact HFB.out (by simpa [Value.ownBlock] using e)) _
            have hM7 : MapV Try.prog 3 (w5.setCell ⟨base2, n, none⟩ (.slice A5 (ri.length + 1) cc5)) w.heap.size prs.length (cmap prs) := (hM.kept hg5 (by intro e; have := HLO.out _ e.symm; omega)).kept (grown_set _ _ _ _) (by simp; omega)
            go_roundw
            case rel => exact ⟨k + 1, by omega, by go_num, by rw [HROW.out]; exact hN7, hF8, hM7, hbg5.setCell (Nat.le_refl _) _⟩
            case measure => simp [intOf]; omega
        · obtain rfl : k = F.length := by omega
          have hd : decide (F.length < F.length) = false := decide_eq_false (by omega)
          rw [HRA.out] at hN
          have kr := k6.trans (hbw.mono (by omega))
          obtain ⟨vs2, m1, m2, m3⟩ := hN
          have HO2 := Lib.hid (fun (W : World) (hg : Below wr.heap.size wr W) => Own.rd encV_len (Own.below m2.1 hg))
          have HI2 := Lib.hid (fun (W : World) (hg : Below wr.heap.size wr W) (i : Nat) (hi : i < OR.length) => Own.below (m3 i (by omega)).1 hg)
          have HM1 := Lib.hid m1
          clear m1 m2 m3 hF hM hbw k6 hbase HCS HCM HRA
          generalize wr = w8 at *
          have hw8 := kr.size
          have hOR : OR.length = gs.length := horl
          go_wp2_with fail
          go_loopw [6, 73] (fun c i wr => ∃ k : Nat, k ≤ OR.length ∧ i = .int .i64 k ∧ OwnI 3 wr w8.heap.size c ((OR.take k).flatMap (partL l steps)) ∧ Below w8.heap.size w8 wr) (fun _ i _ => OR.length - (intOf i).toNat)
          case atStart => exact ⟨0, Nat.zero_le _, rfl, Own.nil _ _, Below.refl _ _⟩
          case round =>
            obtain ⟨k, hk, rfl, hown, hbw⟩ := hrel
            by_cases hlt : k < OR.length
            · have hd : decide (k < OR.length) = true := decide_eq_true hlt
              have hlk := flatMap_take_len (gs := OR) (k := k) (fun ids => Nat.le_trans (HPL.out ids) hl)
              have hkm : k * 1000 ≤ 1000 * 1000 := Nat.mul_le_mul_right _ (by omega)
              have hcO := HO2.out wr hbw
              obtain ⟨b0, off0, he0, hb0, hcO⟩ := Rd.get hcO (Below.refl _ _) (j := k) (by rw [HM1.out]; exact hlt)
              injection he0 with he0
              injection he0 with he0 he1
              subst he0; subst he1
              obtain ⟨Ai, ci, hvk, hci, _⟩ := (HI2.out wr hbw k hlt).sl
              have g1 : wr.cell? ⟨base2, k, none⟩ = some (.slice Ai OR[k]!.length ci) := by
                have := hcO k (by rw [HM1.out]; exact hlt) 0 _ rfl
                rw [hvk] at this
                simpa using this
              have HSL := Lib.hid (fun (W : World) (hg : Below w8.heap.size w8 W) => (by have := HI2.out W hg k hlt; rw [hvk] at this; exact ⟨Ai, ci, rfl, hci, Own.rd encI_len this⟩ : SlI W (.slice Ai OR[k]!.length ci) OR[k]!))
              have hmem : OR[k]! ∈ OR := by rw [getElem!_pos OR k hlt]; exact List.getElem_mem hlt
              have hil := HRL.out _ hmem
              have HWI := Lib.hid (HWO.out _ hmem)
              have HTK : Hid ((OR.take (k + 1)).flatMap (partL l steps) = (OR.take k).flatMap (partL l steps) ++ partL l steps OR[k]!) := Lib.hid (by
                rw [List.take_succ_eq_append_getElem hlt, List.flatMap_append, getElem!_pos OR k hlt]; simp)
              generalize OR[k]! = ids at *
              generalize (OR.take k).flatMap (partL l steps) = acc at *
              obtain ⟨A0, c0, rfl⟩ := Own.slice hown
              have hsz := hbw.size
              have kwr := kr.trans (hbw.mono hw8)
              clear hcO hvk hmem hb0
              by_cases h16 : ids.length ≤ 16
              · have dh : decide ((ids.length : Int) ≤ 16) = true := decide_eq_true (by omega)
                go_wp2_with fail
                refine (CE.out wr kwr ids (.slice Ai ids.length ci) hil HWI.out (HSL.out wr hbw)).mono ?_
                rintro e w9 ⟨vE, rfl, hE, hb9⟩
                have hown9 := Own.below hown hb9
                have kb9 := hbw.trans (hb9.mono hbw.size)
                have hs9 := kb9.size
                rcases hex : exactL l ids steps with _ | b
                · have HP0 : Hid (partL l steps ids = greedyL l ids) := Lib.hid (by unfold partL; rw [if_pos h16, hex])
                  have kw9 := kwr.trans (hb9.mono kwr.size)
                  rw [show errN none = 24 from rfl]
                  clear hex hE g1
                  go_wp2_with fail
                  refine (CG.out w9 kw9 ids (.slice Ai ids.length ci) hil HWI.out (HSL.out w9 kb9)).mono ?_
                  rintro e w11 ⟨vG, rfl, hG, hb11⟩
                  have HP : Hid (partL l steps ids = greedyL l ids) := Lib.hid (HP0.out)
                  have hown11 := Own.below hown9 hb11
                  have kb11 := kb9.trans (hb11.mono kb9.size)
                  have hglen : (greedyL l ids).length ≤ 1000 := by rw [← HP.out]; exact Nat.le_trans (HPL.out ids) hl
                  have hs11 := kb11.size
                  go_wp2_with (at_builtin; refine app_any hown11 hG rfl _ _ rfl rfl rfl (by omega) hs11 ?_; clear hown11; intro v12 w12 hown12 hb12)
                  go_roundw
                  case rel => exact ⟨k + 1, by omega, by go_num, by rw [HTK.out, HP.out]; exact hown12, kb11.trans hb12⟩
                  case measure => simp [intOf]; omega
                · have HP0 : Hid (partL l steps ids = b) := Lib.hid (by unfold partL; rw [if_pos h16, hex])
                  rw [hex] at hE
                  have hE2 : SlI w9 vE b := hE
                  have hbl : b.length ≤ 1000 := by rw [← HP0.out]; exact Nat.le_trans (HPL.out ids) hl
                  rw [show errN (some b) = 0 from rfl]
                  clear hex hE g1
                  go_wp2_with (at_builtin; refine app_any hown9 hE2 rfl _ _ rfl rfl rfl (by omega) hs9 ?_; clear hown9; intro v12 w12 hown12 hb12)
                  go_roundw
                  case rel => exact ⟨k + 1, by omega, by go_num, by rw [HTK.out, HP0.out]; exact hown12, kb9.trans hb12⟩
                  case measure => simp [intOf]; omega
              · have dh : decide ((ids.length : Int) ≤ 16) = false := decide_eq_false (by omega)
                go_wp2_with fail
                refine (CG.out wr kwr ids (.slice Ai ids.length ci) hil HWI.out (HSL.out wr hbw)).mono ?_
                rintro e w11 ⟨vG, rfl, hG, hb11⟩
                have HP : Hid (partL l steps ids = greedyL l ids) := Lib.hid (by unfold partL; rw [if_neg h16])
                have hown11 := Own.below hown hb11
                have kb11 := hbw.trans (hb11.mono hbw.size)
                have hglen : (greedyL l ids).length ≤ 1000 := by rw [← HP.out]; exact Nat.le_trans (HPL.out ids) hl
                have hs11 := kb11.size
                go_wp2_with (at_builtin; refine app_any hown11 hG rfl _ _ rfl rfl rfl (by omega) hs11 ?_; clear hown11; intro v12 w12 hown12 hb12)
                go_roundw
                case rel => exact ⟨k + 1, by omega, by go_num, by rw [HTK.out, HP.out]; exact hown12, kb11.trans hb12⟩
                case measure => simp [intOf]; omega
            · obtain rfl : k = OR.length := by omega
              have hd : decide (OR.length < OR.length) = false := decide_eq_false (by omega)
              rw [List.take_length] at hown
              have hlk := flatMap_take_len (gs := OR) (k := OR.length) (fun ids => Nat.le_trans (HPL.out ids) hl)
              rw [List.take_length] at hlk
              have hkm : OR.length * 1000 ≤ 1000 * 1000 := Nat.mul_le_mul_right _ (by omega)
              generalize OR.flatMap (partL l steps) = acc at *
              have hheld := own_held hown
              obtain ⟨A0, c0, rfl⟩ := Own.slice hown
              have hsz := hbw.size
              have kwr := kr.trans (hbw.mono hw8)
              clear hown
              go_wp2_with fail
              refine (sort_held hheld (by omega)).mono ?_
              rintro e w13 ⟨rfl, hh5, hb5⟩
              have hb6 := hb5 hsz
              have hr5 := (held_rd hh5).2
              have hl5 := (held_rd hh5).1
              have hbe := kwr.trans (hb6.mono hw8)
              have hcap : acc.length ≤ c0 := by
                rcases hheld with ⟨_, _, he, h0⟩ | ⟨_, _, he, _, _, hc, _⟩
                · rw [h0]; exact Nat.zero_le _
                · injection he with _ _ he; rw [he]; exact hc
              have hfin : SlI w13 (.slice A0 acc.length c0) (acc.mergeSort fun x y => decide (x ≤ y)) := ⟨A0, c0, congrArg (fun n => Value.slice A0 n c0) hl5, by rw [← hl5]; exact hcap, hr5⟩
              have HFIN := Lib.hid hfin
              clear hheld hh5 hb5 hb6 hsz hl5 hr5 hfin
              go_wp2
              go_ret
              rw [HBR.out]
              exact ⟨_, rfl, HFIN.out, hbe⟩
end Go.Proofs
/- The reference's step. -/
set_option linter.unusedVariables false
set_option linter.unusedSimpArgs false
namespace Go.Proofs
open Go.RowKit Go.Proofs.Mp Go.Proofs.Uf Go.Maps

def bestI (x : XS) : Int := match x.best with
  | none => -1
  | some b => b.length
/-- the cells of a search -/
abbrev Box7 (W : World) (bs : Nat) (vl vf : Value) (lim m : Int) (b : Int) (vr : Value) (over : Bool) : Prop :=
  W.heap[bs]? = some (.cells #[vl, vf, .int .i64 lim, .int .i64 m, .int .i64 b, vr, .bool over] 64 (0, 0))
theorem Box7.kept {W W' : World} {bs : Nat} {vl vf vr : Value} {lim m b : Int} {over : Bool} (h : Box7 W bs vl vf lim m b vr over) (hb : Below W.heap.size W W') : Box7 W' bs vl vf lim m b vr over := (hb.block bs (lt_of_block h)).trans h
theorem Box7.cells {W : World} {bs : Nat} {vl vf vr : Value} {lim m b : Int} {over : Bool} (h : Box7 W bs vl vf lim m b vr over) :
    (W.cell? ⟨bs, 0, none⟩ = some vl ∧ W.cell? ⟨bs, 1, none⟩ = some vf ∧ W.cell? ⟨bs, 2, none⟩ = some (.int .i64 lim) ∧ W.cell? ⟨bs, 3, none⟩ = some (.int .i64 m) ∧ W.cell? ⟨bs, 4, none⟩ = some (.int .i64 b) ∧ W.cell? ⟨bs, 5, none⟩ = some vr ∧ W.cell? ⟨bs, 6, none⟩ = some (.bool over)) ∧
    ∀ i, W.frozen? ⟨bs, i, none⟩ = false := by
  refine ⟨⟨?_, ?_, ?_, ?_, ?_, ?_, ?_⟩, fun i => ?_⟩ <;> simp [World.cell?, World.frozen?, h]
theorem Box7.set {W : World} {bs : Nat} {vl vf vr : Value} {lim m b : Int} {over : Bool} (h : Box7 W bs vl vf lim m b vr over) (i : Nat) (u : Value) :
    (W.setCell ⟨bs, i, none⟩ u).heap[bs]? = some (.cells ((#[vl, vf, .int .i64 lim, .int .i64 m, .int .i64 b, vr, .bool over] : Array Value).set! i u) 64 (0, 0)) := by
  have hlt := lt_of_block h
  have h0 : W.heap[bs]? = _ := h
  rw [Array.getElem?_eq_getElem hlt] at h0
  have h' := Option.some.inj h0
  show (W.heap.modify bs _)[bs]? = _
  rw [Array.getElem?_eq_getElem (by simpa using hlt), Array.getElem_modify_self, h']
  rfl
theorem Rd.keptB {W W' : World} {bs : Nat} {A : Option Addr} {xs : List Int} (h : RdI W A xs) {t : TypeId} {cs : Array Value} (hb : W.heap[bs]? = some (.cells cs t (0, 0))) (hg : W.grownBy W' (some bs)) (hne : ∀ b off, A = some ⟨b, off, none⟩ → b ≠ bs) : RdI W' A xs := by
  rcases h with h | ⟨b, off, e, hlt, hc⟩
  · exact .inl h
  · have := hne b off e
    exact .inr ⟨b, off, e, Nat.lt_of_lt_of_le hlt hg.size, fun j hj i u hu => (World.cell?_of_block (hg.block b hlt (by simpa using this))).trans (hc j hj i u hu)⟩
theorem Box7.over {W : World} {bs : Nat} {vl vf vr : Value} {lim m b : Int} {o : Bool} (h : Box7 W bs vl vf lim m b vr o) : Box7 (W.setCell ⟨bs, 6, none⟩ (.bool true)) bs vl vf lim m b vr true := h.set 6 _
theorem Box7.made {W : World} {bs : Nat} {vl vf vr : Value} {lim m b : Int} {o : Bool} (h : Box7 W bs vl vf lim m b vr o) (m' : Int) : Box7 (W.setCell ⟨bs, 3, none⟩ (.int .i64 m')) bs vl vf lim m' b vr o := h.set 3 _
theorem Box7.best {W : World} {bs : Nat} {vl vf vr : Value} {lim m b : Int} {o : Bool} (h : Box7 W bs vl vf lim m b vr o) (b' : Int) : Box7 (W.setCell ⟨bs, 4, none⟩ (.int .i64 b')) bs vl vf lim m b' vr o := h.set 4 _
theorem Box7.res {W : World} {bs : Nat} {vl vf vr : Value} {lim m b : Int} {o : Bool} (h : Box7 W bs vl vf lim m b vr o) (v' : Value) : Box7 (W.setCell ⟨bs, 5, none⟩ v') bs vl vf lim m b v' o := h.set 5 _
theorem Box7.drewN {W : World} {bs : Nat} {vl vf vr : Value} {lim m b : Int} {o : Bool} (h : Box7 W bs vl vf lim m b vr o) (n : Nat) : Box7 (W.drewN n) bs vl vf lim m b vr o := h
theorem bel_drewN (w : World) (n : Nat) : Below w.heap.size w (w.drewN n) := ⟨rfl, rfl, rfl, Nat.le_refl _, fun _ _ => rfl⟩
theorem grown_drewN (w : World) (n : Nat) (row : Option Nat) : w.grownBy (w.drewN n) row := ⟨rfl, rfl, rfl, Nat.le_refl _, fun _ _ _ => rfl⟩
theorem SlI.box {W W' : World} {bs : Nat} {v : Value} {xs : List Int} {t : TypeId} {cs : Array Value} (h : SlI W v xs) (hb : W.heap[bs]? = some (.cells cs t (0, 0))) (hg : W.grownBy W' (some bs)) (hne : xs = [] ∨ v.ownBlock ≠ some bs) : SlI W' v xs := by
  obtain ⟨A, c, rfl, hc, hR⟩ := h
  refine ⟨A, c, rfl, hc, ?_⟩
  rcases hne with rfl | hne
  · exact Rd.nil _
  · refine Rd.keptB hR hb hg fun b off e hb' => hne ?_
    rw [e, hb']; rfl
/-- a value that does not lie in the block bs -/
def Off (bs : Nat) (v : Value) : Prop := v.ownBlock ≠ some bs
/-- the search at the state o, and its result lies elsewhere -/
def StQ (bs : Nat) (vl vf : Value) (lim : Nat) (o : Option XS) (W : World) : Prop := match o with
  | some x => ∃ vr, Box7 W bs vl vf lim x.made (bestI x) vr false ∧ SlI W vr (x.best.getD []) ∧ Off bs vr
  | none => ∃ m b vr, Box7 W bs vl vf lim m b vr true
def StepQ (bs : Nat) (vl vf : Value) (lim : Nat) (W : World) (b : Bool) (o : Option XS) (e : Ending) (w' : World) : Prop := e = .returned (.bool b) ∧ W.grownBy w' (some bs) ∧ StQ bs vl vf lim o w'
set_option maxHeartbeats 4000000 in
theorem step57_over {bs : Nat} {vl vf : Value} {lim : Nat} (k n : Int) (W : World) (h : StQ bs vl vf lim none W) :
    Calls Try.prog 57 #[.pointer (some ⟨bs, 0, none⟩), .int .i64 k, .int .i64 n] W (StepQ bs vl vf lim W false none) := by
  obtain ⟨m, b, vr, hB⟩ := h
  obtain ⟨⟨c0, c1, c2, c3, c4, c5, c6⟩, fz⟩ := hB.cells
  have HB := Lib.hid hB
  clear hB
  go_enter Try.func57, Try.ntmps57
  go_wp2_with fail
  go_quiet (fail)
  go_wp2_with fail
  go_ret
  exact ⟨rfl, grown_drewN _ _ _, _, _, _, HB.out.drewN _⟩
set_option maxHeartbeats 4000000 in
theorem step57_no {bs : Nat} {vl : Value} {AF : Option Addr} {N cF lim : Nat} {x : XS} (k n : Nat) (W : World) (hN : N ≤ 1000) (hk : k < N) (hn : n ≤ 1000) (hm : x.made ≤ 100000) (hr : roomB x (n + (N - k - 1)) = false) (h : StQ bs vl (.slice AF N cF) lim (some x) W) :
    Calls Try.prog 57 #[.pointer (some ⟨bs, 0, none⟩), .int .i64 (k : Int), .int .i64 (n : Int)] W (StepQ bs vl (.slice AF N cF) lim W false (some x)) := by
  obtain ⟨vr, hB, hS, hO⟩ := h
  have HF : Hid (∀ nq, StQ bs vl (.slice AF N cF) lim (some x) (W.drewN nq)) := Lib.hid (fun nq => ⟨vr, hB.drewN _, hS.below (bel_drewN _ nq), hO⟩)
  obtain ⟨⟨c0, c1, c2, c3, c4, c5, c6⟩, fz⟩ := hB.cells
  obtain ⟨b, hb, hle⟩ := room_no (x := x) (m := n + (N - k - 1)) (by rw [hr]; decide)
  have hbi : bestI x = b.length := by unfold bestI; rw [hb]
  rw [hbi] at c4
  have hd : decide ((n : Int) + N - k - 1 ≤ b.length) = true := decide_eq_true (by omega)
  have hd2 : (n : Int) + N - k - 1 ≤ b.length := by omega
  clear hB hr hb hbi hS hO
  go_enter Try.func57, Try.ntmps57
  go_wp2_with fail
  go_quiet (fail)
  go_wp2_with fail
  go_ret
  exact ⟨rfl, grown_drewN _ _ _, HF.out _⟩
theorem room_bestI {x : XS} {m : Nat} (h : roomB x m = true) : bestI x < m := by
  unfold roomB at h
  unfold bestI
  split
  · omega
  · rename_i b hb
    rw [hb] at h
    have : b.length < m := by simpa using h
    omega
set_option maxHeartbeats 4000000 in
theorem step57_full {bs : Nat} {vl : Value} {AF : Option Addr} {N cF lim : Nat} {x : XS} (k n : Nat) (W : World) (hN : N ≤ 1000) (hk : k < N) (hn : n ≤ 1000) (hl : lim ≤ 100000) (hm : x.made = lim) (hr : roomB x (n + (N - k - 1)) = true) (h : StQ bs vl (.slice AF N cF) lim (some x) W) :
    Calls Try.prog 57 #[.pointer (some ⟨bs, 0, none⟩), .int .i64 (k : Int), .int .i64 (n : Int)] W (StepQ bs vl (.slice AF N cF) lim W false none) := by
  obtain ⟨vr, hB, hS, hO⟩ := h
  have HF : Hid (∀ nq, StQ bs vl (.slice AF N cF) lim none ((W.drewN nq).setCell ⟨bs, 6, none⟩ (.bool true))) := Lib.hid (fun nq => ⟨_, _, vr, Box7.over (hB.drewN nq)⟩)
  obtain ⟨⟨c0, c1, c2, c3, c4, c5, c6⟩, fz⟩ := hB.cells
  have hlt := room_bestI hr
  obtain ⟨bb, hbb⟩ : ∃ bb, bestI x = bb := ⟨_, rfl⟩
  rw [hbb] at hlt c4
  rw [hm] at c3
  have hd : decide ((n : Int) + N - k - 1 ≤ bb) = false := decide_eq_false (by omega)
  have hd2 : ¬ ((n : Int) + N - k - 1 ≤ bb) := by omega
  clear hB hr hbb hS hO hm
  go_enter Try.func57, Try.ntmps57
  go_wp2_with fail
  go_quiet (fail)
  go_wp2_with fail
  go_quiet (fail)
  go_wp2_with fail
  go_ret
  exact ⟨rfl, (grown_drewN _ _ _).trans (grown_set _ _ _ _), HF.out _⟩
set_option maxHeartbeats 4000000 in
theorem step57_go {bs : Nat} {vl : Value} {AF : Option Addr} {N cF lim : Nat} {x : XS} (k n : Nat) (W : World) (hN : N ≤ 1000) (hk : k < N) (hn : n ≤ 1000) (hl : lim ≤ 100000) (hm : x.made < lim) (hr : roomB x (n + (N - k - 1)) = true) (h : StQ bs vl (.slice AF N cF) lim (some x) W) :
    Calls Try.prog 57 #[.pointer (some ⟨bs, 0, none⟩), .int .i64 (k : Int), .int .i64 (n : Int)] W (StepQ bs vl (.slice AF N cF) lim W true (some ⟨x.made + 1, x.best⟩)) := by
  obtain ⟨vr, hB, hS, hO⟩ := h
  obtain ⟨⟨c0, c1, c2, c3, c4, c5, c6⟩, fz⟩ := hB.cells
  have HB := Lib.hid hB
  have HS := Lib.hid hS
  have HO := Lib.hid hO
  have hlt := room_bestI hr
  obtain ⟨bb, hbb⟩ : ∃ bb, bestI x = bb := ⟨_, rfl⟩
  rw [hbb] at hlt c4
  have hne : ((x.made : Int) == (lim : Int)) = false := by simp; omega
  have hne2 : ¬ (x.made : Int) = lim := by omega
  have hd : decide ((n : Int) + N - k - 1 ≤ bb) = false := decide_eq_false (by omega)
  have hd2 : ¬ ((n : Int) + N - k - 1 ≤ bb) := by omega
  clear hB hr hbb hS hO
  go_enter Try.func57, Try.ntmps57
  go_wp2_with fail
  go_quiet (fail)
  go_wp2_with fail
  go_quiet (fail)
  go_wp2_with fail
  go_ret
  refine ⟨rfl, (grown_drewN _ _ _).trans (grown_set _ _ _ _), vr, Box7.made (HB.out.drewN _) _, ?_, HO.out⟩
  exact SlI.box HS.out HB.out ((grown_drewN _ _ _).trans (grown_set _ _ _ _)) (.inr HO.out)
end Go.Proofs
/- The reference's exact search: try. -/
set_option linter.unusedVariables false
set_option linter.unusedSimpArgs false
namespace Go.Proofs
open Go.RowKit Go.Proofs.Mp Go.Proofs.Uf Go.Maps

/-- a step at a state: is it made, and the state behind it -/
def stepRes (lim m : Nat) (o : Option XS) : Bool × Option XS := match o with
  | none => (false, none)
  | some x => if roomB x m = true then (if x.made < lim then (true, some ⟨x.made + 1, x.best⟩) else (false, none)) else (false, some x)
theorem stepRes_true {lim m : Nat} {o : Option XS} (h : (stepRes lim m o).1 = true) : ∃ y, (stepRes lim m o).2 = some y ∧ y.made ≤ lim := by
  unfold stepRes at *
  rcases o with _ | x
  · cases h
  · dsimp only at *
    split at h
    · split at h
      · rename_i h1 h2
        rw [if_pos h1, if_pos h2]
        exact ⟨_, rfl, h2⟩
      · cases h
    · cases h
def leO (lim : Nat) (o : Option XS) : Prop := ∀ x, o = some x → x.made ≤ lim
theorem stepRes_le {lim m : Nat} {o : Option XS} (h : leO lim o) : leO lim (stepRes lim m o).2 := by
  intro y hy
  unfold stepRes at hy
  rcases o with _ | x
  · cases hy
  · dsimp only at hy
    split at hy
    · split at hy
      · rename_i h1 h2
        injection hy with hy
        subst hy
        exact h2
      · cases hy
    · injection hy with hy
      subst hy
      exact h _ rfl
theorem try_step {l : List Cand} {lim : Nat} {g : List Int → XS → Option XS} {n : Nat} {now : List Int} {o : Option XS} {i : Int} (h : fitsB l now i = true) {b : Bool} {o2 : Option XS} (hs : stepRes lim (now.length + 1 + n) o = (b, o2)) :
    tryS l lim g n now o i = if b = true then o2.bind (g (now ++ [i])) else o2 := by
  rcases o with _ | x
  · cases hs; rfl
  · unfold stepRes at hs
    dsimp only at hs
    by_cases hr : roomB x (now.length + 1 + n) = true
    · rw [if_pos hr] at hs
      by_cases hm : x.made < lim
      · rw [if_pos hm] at hs
        cases hs
        rw [try_go h hr hm]; rfl
      · rw [if_neg hm] at hs
        cases hs
        rw [try_full h hr hm]; rfl
    · rw [if_neg hr] at hs
      cases hs
      unfold tryS
      rw [Option.bind_some, if_neg (fun hc => hr hc.2)]; rfl
theorem last_step {lim : Nat} {g : List Int → XS → Option XS} {n : Nat} {now : List Int} {o : Option XS} {b : Bool} {o2 : Option XS} (hs : stepRes lim (now.length + n) o = (b, o2)) :
    o.bind (lastS lim g n now) = if b = true then o2.bind (g now) else o2 := by
  rcases o with _ | x
  · cases hs; rfl
  · unfold stepRes at hs
    dsimp only at hs
    rw [Option.bind_some]
    by_cases hr : roomB x (now.length + n) = true
    · rw [if_pos hr] at hs
      by_cases hm : x.made < lim
      · rw [if_pos hm] at hs
        cases hs
        rw [last_go hr hm]; rfl
      · rw [if_neg hm] at hs
        cases hs
        rw [last_full hr hm]; rfl
    · rw [if_neg hr] at hs
      cases hs
      rw [last_no (by simpa using hr)]; rfl
theorem step57 {bs : Nat} {vl : Value} {AF : Option Addr} {N cF lim : Nat} {o : Option XS} (k n : Nat) (W : World) (hN : N ≤ 1000) (hk : k < N) (hn : n ≤ 1000) (hl : lim ≤ 100000) (hm : leO lim o) (h : StQ bs vl (.slice AF N cF) lim o W) :
    Calls Try.prog 57 #[.pointer (some ⟨bs, 0, none⟩), .int .i64 (k : Int), .int .i64 (n : Int)] W (StepQ bs vl (.slice AF N cF) lim W (stepRes lim (n + (N - k - 1)) o).1 (stepRes lim (n + (N - k - 1)) o).2) := by
  rcases o with _ | x
  · exact step57_over _ _ W h
  · have := hm x rfl
    unfold stepRes
    dsimp only
    split
    · rename_i hr
      split
      · rename_i hx
        exact step57_go k n W hN hk hn hl hx hr h
      · rename_i hx
        exact step57_full k n W hN hk hn hl (by omega) hr h
    · rename_i hr
      exact step57_no k n W hN hk hn (by omega) (by simpa using hr) h
/-- what the regions of try keep: old blocks but the search's, whose first cell stays -/
def SQ (wr : World) (bs : Nat) (vl : Value) (W : World) : Prop := wr.grownBy W (some bs) ∧ bs < wr.heap.size ∧ W.cell? ⟨bs, 0, none⟩ = some vl
section
variable {wr W W' : World} {bs : Nat} {vl : Value}
theorem SQ.size (h : SQ wr bs vl W) : wr.heap.size ≤ W.heap.size := h.1.size
theorem SQ.trans (h : SQ wr bs vl W) (hb : Below wr.heap.size W W') : SQ wr bs vl W' :=
  ⟨⟨hb.os.trans h.1.os, hb.tape.trans h.1.tape, hb.output.trans h.1.output, Nat.le_trans h.1.size hb.size, fun k hk hne => (hb.block k hk).trans (h.1.block k hk hne)⟩, h.2.1, (hb.cell (p := ⟨bs, 0, none⟩) h.2.1).trans h.2.2⟩
theorem SQ.alloc (h : SQ wr bs vl W) {p : Prop} (_ : p) (o : Obj) : SQ wr bs vl (W.alloc o) := h.trans ((bw1 W o).mono h.size)
theorem SQ.drew (h : SQ wr bs vl W) : SQ wr bs vl W.drew := ⟨h.1.trans (grown_drew _ _), h.2.1, h.2.2⟩
theorem SQ.step (h : SQ wr bs vl W) {vf : Value} {lim : Nat} {o : Option XS} (hg : W.grownBy W' (some bs)) (hq : StQ bs vl vf lim o W') : SQ wr bs vl W' := by
  refine ⟨h.1.trans hg, h.2.1, ?_⟩
  rcases o with _ | x
  · obtain ⟨m, b, vr, hB⟩ := hq
    exact hB.cells.1.1
  · obtain ⟨vr, hB, _⟩ := hq
    exact hB.cells.1.1
theorem StQ.cell0 {vf : Value} {lim : Nat} {o : Option XS} (hq : StQ bs vl vf lim o W) : W.cell? ⟨bs, 0, none⟩ = some vl ∧ W.cell? ⟨bs, 1, none⟩ = some vf ∧ bs < W.heap.size := by
  rcases o with _ | x
  · obtain ⟨m, b, vr, hB⟩ := hq
    exact ⟨hB.cells.1.1, hB.cells.1.2.1, lt_of_block hB⟩
  · obtain ⟨vr, hB, _⟩ := hq
    exact ⟨hB.cells.1.1, hB.cells.1.2.1, lt_of_block hB⟩
theorem StQ.below {vf : Value} {lim : Nat} {o : Option XS} (hq : StQ bs vl vf lim o W) (hb : Below W.heap.size W W') : StQ bs vl vf lim o W' := by
  rcases o with _ | x
  · obtain ⟨m, b, vr, hB⟩ := hq
    exact ⟨m, b, vr, hB.kept hb⟩
  · obtain ⟨vr, hB, hS, hO⟩ := hq
    exact ⟨vr, hB.kept hb, hS.below hb, hO⟩
theorem StQ.alloc {vf : Value} {lim : Nat} {o : Option XS} (hq : StQ bs vl vf lim o W) (b : Obj) : StQ bs vl vf lim o (W.alloc b) := hq.below (bw1 _ _)
theorem One.below {u : Value} {y : Int} (h : One W u y) (hb : Below W.heap.size W W') : One W' u y := by
  obtain ⟨b, h1, h2⟩ := h
  exact ⟨b, h1, (hb.cell (p := ⟨b, 0, none⟩) (World.block_lt_of_cell? W _ h2)).trans h2⟩
theorem One.alloc {u : Value} {y : Int} (h : One W u y) (o : Obj) : One (W.alloc o) u y := h.below (bw1 _ _)
end
def TryP (bs : Nat) (vl vf : Value) (lim : Nat) (W : World) (o : Option XS) (e : Ending) (w' : World) : Prop := e = .returned (.tuple #[]) ∧ W.grownBy w' (some bs) ∧ StQ bs vl vf lim o w' ∧ leO lim o
theorem wp_of_list {P : Program} {ops : Array Oper} {o : Oper} {a : Act} {w : World} {K : Act → World → Prop} {Q : Exit → Act → World → Prop} {E : Prop} (hgd : o.guard = none) (h : Oper.wp P o a w K Q) : if Region.wanted o (yielded ops a.tmps) = true then Oper.wp P o a w K Q else E := by
  rw [if_pos (by simp [Region.wanted, hgd])]
  exact h
theorem app_wp {W : World} {base : Nat} {v u : Value} {xs ys : List Int} {o : Oper} {a : Act} {K : Act → World → Prop} {Q : Exit → Act → World → Prop} {ops : Array Oper} {E : Prop}
    (hown : OwnI 3 W base v xs) (hu : SlI W u ys) (hgd : o.guard = none) (s x : Operand)
    (ho : o.op = .call { callee := .builtin .append, args := #[s, x], argTypes := #[23, 23] }) (hs : a.eval s = v) (hx : a.eval x = u)
    (hN : xs.length + ys.length ≤ 1000000000000) (hbase : base ≤ W.heap.size)
    (h : ∀ v' w', OwnI 3 w' base v' (xs ++ ys) → Below base W w' → K (a.put o.dst v') w') : if Region.wanted o (yielded ops a.tmps) = true then Oper.wp Try.prog o a W K Q else E := by
  refine wp_of_list hgd ?_
  obtain ⟨i0, hi, hz0, hz1, hz2⟩ := Mp.info_parts Try.infoI
  obtain ⟨A, c, rfl, hc, hR⟩ := hu
  have hgo : ∀ ad : Addr, A = some ad → (∀ j z, (ys.flatMap Mp.encI)[j]? = some z → W.cell? (ad.add j) = some z) → Oper.wp Try.prog o a W K Q := by
    rintro ad rfl hcell
    refine wp_append_own W s x 23 ho base 3 i0 (.int .i64 0) 1 8 Try.underlying23 hi hz0 hz1 hz2 rfl (by decide) v xs.length (xs.flatMap Mp.encI) hs hown ad ys.length c (ys.flatMap Mp.encI) hx (flat_len ys) hcell ?_ (by unfold maxLen; omega) (by omega) hbase ?_
    · intro z hz
      obtain ⟨y, _, hz⟩ := List.mem_flatMap.1 hz
      exact encI_one y z hz
    · intro v' w' h1 h2 _
      refine h v' w' ?_ ((Below.refl _ _).grown h2 hbase (fun k hk => (World.ownsRow.lt hown k hk).1))
      unfold OwnI Own
      rw [List.length_append, List.flatMap_append]
      exact h1
  rcases A with _ | ad
  · have hy : ys = [] := by
      rcases hR with h0 | ⟨b, off, e, _⟩
      · exact h0
      · cases e
    subst hy
    have hrun : (Builtin.append_ #[23, 23] o.type #[v, .slice none 0 c]).run Try.prog W = .ok v W := by
      rcases hown.2 with ⟨rfl, h0⟩ | ⟨g, cap, cur, rfl, _, _, hnc, _⟩
      · simp [h0, Builtin.append_, run_underlying Try.underlying23, sizeOf, typeInfo, hi, Builtin.lenOf, Builtin.firstCells]
      · simp [Builtin.append_, run_underlying Try.underlying23, sizeOf, typeInfo, hi, Builtin.lenOf, Builtin.firstCells, hnc, storeCells]
    unfold Oper.wp
    simp [execOp, ho, resolve, invoke, builtin, hs, hx, hrun, Result.andThen]
    have hown' : OwnI 3 W base v (xs ++ []) := by rw [List.append_nil]; exact hown
    exact h v W hown' (Below.refl _ _)
  · refine hgo ad rfl fun j z hz => ?_
    obtain ⟨hj, rfl⟩ := flat_get ys j z hz
    rcases hR with rfl | ⟨b, off, e, hlt, hcc⟩
    · exact absurd hj (Nat.not_lt_zero _)
    · have e := Option.some.inj e
      rw [e]
      have := hcc j hj 0 (.int .i64 ys[j]!) rfl
      rw [Nat.mul_one] at this
      rw [addr_add]
      exact this
theorem One.sl {W : World} {u : Value} {y : Int} (h : One W u y) : SlI W u [y] := by
  obtain ⟨b, rfl, hc⟩ := h
  refine ⟨_, 1, rfl, Nat.le_refl _, .inr ⟨b, 0, rfl, World.block_lt_of_cell? W _ hc, fun j hj i v hv => ?_⟩⟩
  have hj : j = 0 := by simp at hj; omega
  subst hj
  match i with
  | 0 =>
    simp [Mp.encI] at hv
    subst hv
    simpa using hc
  | i + 1 => simp [Mp.encI] at hv
theorem own_lit0 (w : World) : OwnI 3 (w.alloc (.cells #[] 3)) w.heap.size (.slice (some ⟨w.heap.size, 0, none⟩) 0 0) [] :=
  World.ownsRow_lit (base := w.heap.size) (e := 3) (size := 1) w #[] 0 (Nat.le_refl _) (Nat.zero_le _) rfl
theorem Mp.OwnI.sl2 {w : World} {base : Nat} {v : Value} {xs : List Int} (h : OwnI 3 w base v xs) : SlI w v xs := Mp.Own.sl h
end Go.Proofs
