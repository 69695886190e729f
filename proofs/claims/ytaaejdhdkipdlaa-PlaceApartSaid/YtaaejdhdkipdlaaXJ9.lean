/- The program's Greedy. -/
import Derived.Test.YtaaejdhdkipdlaaXJ8
import Derived.WalkMore
import Derived.OneCell
set_option linter.unusedVariables false
set_option linter.unusedSimpArgs false
namespace Go.Proofs
open Go.RowKit Go.Proofs.Mp Go.Proofs.Uf Go.Maps

theorem GP.below {w w' : World} {B base N : Nat} {g : Int → List Int} (h : GP w B base N g) (hb : Below w.heap.size w w') : GP w' B base N g := by
  obtain ⟨V, h1, h2, h3, h4⟩ := h
  exact ⟨V, h1.below hb, h2, Nat.le_trans h3 hb.size, fun f hf => Own.below (h4.1 f hf) hb, h4.2⟩
theorem GP.row {w : World} {B base N : Nat} {g : Int → List Int} (h : GP w B base N g) (f : Int) : ∃ V A c, MapV Try.prog 3 w B N V ∧ (V f).getD nilS = .slice A (g f).length c ∧ (g f).length ≤ c ∧ RdI w A (g f) := by
  obtain ⟨V, h1, _, _, h4⟩ := h
  obtain ⟨A, c, e, hc, hR⟩ := (h4.1 f (by simp)).sl
  exact ⟨V, A, c, h1, e, hc, hR⟩
set_option maxRecDepth 100000 in
set_option maxHeartbeats 4000000 in
theorem place_greedy0 (u v : Value) (l : List Cand) (order : List Int) (w : World) (hl : l.length ≤ 1000) (ho : order.length ≤ 1000) (hwf : wfs (feats l)) (hwo : wfs order) (hu : SlC w u l) (hv : SlI w v order) :
    Calls Try.prog 17 #[u, v] w (PostS w ((greedyR l order).mergeSort fun x y => decide (x ≤ y))) := by
  have hdl := distL_len order
  have CF := Lib.hid (fun (W : World) (hb' : Below w.heap.size w W) => place_distinct v order W ho hwo (hv.below hb'))
  have CO := Lib.hid (place_ordered u l w hl hwf hu)
  have HWY := Lib.hid (fun z hz => hwo z (distL_sub order z hz))
  have HG := Lib.hid (grK_all l order)
  generalize greedyR l order = gr at *
  generalize distL order = F at *
  obtain ⟨A, ca, rfl, hca, hR⟩ := hu
  have HR := Lib.hid hR
  clear hv hR hwf hwo
  go_enter Try.func17, Try.ntmps17
  go_wp2_with fail
  refine CO.out.mono ?_
  rintro e w1 ⟨B, base, N, rfl, hP, hN, hB1, hb1⟩
  clear CO
  go_wp2_with fail
  refine (CF.out w1 hb1).mono ?_
  rintro e w2 ⟨vF, rfl, hF, hb2⟩
  replace hP := hP.below hb2
  have k2 := hb1.trans (hb2.mono hb1.size)
  have hw2 := k2.size
  clear CF
  obtain ⟨AF, cF, rfl, hcF, hRF⟩ := hF.sl
  have HRF := Lib.hid hRF
  have HP := Lib.hid (fun (W : World) (hW : Below w2.heap.size w2 W) => hP.below hW)
  clear hF hRF hP hb1 hb2
  go_wp2_with fail
  go_loopw [4, 17] (fun c i wr => ∃ k : Nat, k ≤ F.length ∧ i = .int .i64 k ∧ OwnI 3 wr w2.heap.size c (grK l F k) ∧ Below w.heap.size w wr ∧ Below w2.heap.size w2 wr) (fun _ i _ => F.length - (intOf i).toNat)
  case atStart => exact ⟨0, Nat.zero_le _, rfl, Own.nil _ _, k2, Below.refl _ _⟩
  case round =>
    clear k2
    obtain ⟨k, hk, rfl, hown, hbw, hbx⟩ := hrel
    have hlen := grK_len l F k hk
    by_cases hlt : k < F.length
    · obtain ⟨b, off, rfl, hb, g1⟩ := RdI.get HRF.out hbx hlt
      obtain ⟨y, hy⟩ : ∃ y, F[k]! = y := ⟨_, rfl⟩
      have hwy : (Lit.int .i64 F[k]!).wf = true := HWY.out _ (getMem hlt)
      have HSU := Lib.hid (grK_succ l hlt)
      have HIN : Hid (inAll l (grK l F k)) := Lib.hid (inAll_iff.2 (grK_in l F k hk))
      rw [hy] at g1 HSU hwy
      have HST : Hid (grK l F (k + 1) = match (ordL l y).find? (fitsB l (grK l F k)) with | some i => grK l F k ++ [i] | none => grK l F k) := HSU
      obtain ⟨acc, hacc⟩ : ∃ acc, grK l F k = acc := ⟨_, rfl⟩
      rw [hacc] at hown HST HIN hlen
      have hd : decide (k < F.length) = true := decide_eq_true hlt
      have hac : acc.length ≤ 1000 := by omega
      obtain ⟨V, AO, cO, hM, hVy, hcO, hRO⟩ := (HP.out wr hbx).row y
      have hol := ordL_len l y
      have HOM := Lib.hid (fun (j : Nat) (hj : j < (ordL l y).length) => (ordL_mem (getMem hj)).1)
      have HVY := Lib.hid hVy
      clear hy hacc HSU hVy
      generalize ordL l y = O at *
      have HRO := Lib.hid hRO
      clear hRO
      go_wp2_with fail
      go_step3
      go_wp2_with fail
      go_step3
      go_wp2_with (at_lookup; refine MapV.look hM rfl _ _ rfl Try.underlying57 Try.underlying3 (Try.zero23 _) rfl y rfl hwy HVY.out ?_)
      clear hM g1
      generalize wr = w3 at *
      have hsz3 := hbx.size
      go_loopw [4, 25] (fun c i wr => ∃ m : Nat, m ≤ O.length ∧ i = .int .i64 m ∧ OwnI 3 wr w2.heap.size c acc ∧ Below w.heap.size w wr ∧ Below w3.heap.size w3 wr ∧ Hid (∀ j, j < m → fitsB l acc O[j]! = false)) (fun _ i _ => O.length - (intOf i).toNat)
      case atStart => exact ⟨0, Nat.zero_le _, rfl, hown, hbw, Below.refl _ _, Lib.hid (fun j hj => by omega)⟩
      case round =>
        have hbx3 := hbx
        clear hown hbw hbx
        obtain ⟨m, hm, rfl, hown, hbw, hbx, hno⟩ := hrel
        by_cases hlm : m < O.length
        · obtain ⟨bo, offo, rfl, hbo, HCO⟩ := RdI.cells HRO.out (show 0 < O.length by omega)
          obtain ⟨n1, hn1, hn1l⟩ := inB_nat (HOM.out m hlm)
          have g2 : wr.cell? ⟨bo, offo + m, none⟩ = some (.int .i64 (n1 : Int)) := by have := HCO wr hbx m hlm; rwa [hn1] at this
          have HN1 := Lib.hid hn1
          have hd2 : decide (m < O.length) = true := decide_eq_true hlm
          obtain ⟨A0, c0, rfl⟩ := Own.slice hown
          clear hn1 HCO
          go_wp2_with fail
          clear g2
          generalize wr = w4 at *
          go_loopw [31] (fun i wr => ∃ n : Nat, n ≤ acc.length ∧ i = .int .i64 n ∧ OwnI 3 wr w2.heap.size (.slice A0 acc.length c0) acc ∧ Below w.heap.size w wr ∧ Below w3.heap.size w3 wr ∧ Hid (∀ j, j < n → hitI l (n1 : Int) acc[j]! = false)) (fun i _ => acc.length - (intOf i).toNat)
          case atStart => exact ⟨0, Nat.zero_le _, rfl, hown, hbw, hbx, Lib.hid (fun j hj => by omega)⟩
          case round =>
            clear hown hbw hbx
            obtain ⟨n, hn, rfl, hown, hbw, hbx, hno2⟩ := hrel
            by_cases hln : n < acc.length
            · obtain ⟨ba, offa, hA0, hba, HCA⟩ := RdI.cells (Own.rd encI_len hown) (show 0 < acc.length by omega)
              subst hA0
              obtain ⟨n2, hn2, hn2l⟩ := inB_nat (HIN.out n hln)
              have g3 : wr.cell? ⟨ba, offa + n, none⟩ = some (.int .i64 (n2 : Int)) := by have := HCA wr (Below.refl _ _) n hln; rwa [hn2] at this
              have HG := Lib.hid g3
              have HHI : Hid (hitI l (n1 : Int) acc[n]! = hitB l[n1]! l[n2]!) := Lib.hid (by unfold hitI; rw [hn2]; simp)
              obtain ⟨bl, offl, rfl, hbl, HCL⟩ := Rd.rangeCs HR.out (show 0 < l.length by omega)
              have HX := Lib.hid (fun (W : World) (hW : Below wr.heap.size wr W) => HCL W (hbw.trans (hW.mono hbw.size)) n1 hn1l)
              have HY := Lib.hid (fun (W : World) (hW : Below wr.heap.size wr W) => HCL W (hbw.trans (hW.mono hbw.size)) n2 hn2l)
              obtain ⟨x, hx⟩ : ∃ x, l[n1]! = x := ⟨_, rfl⟩
              obtain ⟨z, hz⟩ : ∃ z, l[n2]! = z := ⟨_, rfl⟩
              rw [hx] at HX HHI
              rw [hz] at HY HHI
              have hd3 : decide (n < acc.length) = true := decide_eq_true hln
              clear hn2 HCL hx hz HCA
              have hS1 : (fun W : World => Below wr.heap.size wr W) wr.drew := (Below.refl _ _).drew
              go_wp2_with fail
              clear g3
              refine wp_region_held_drew (S := fun W : World => Below wr.heap.size wr W) (by kernel_rfl) hS1 (fun hHeld => ?_)
              clear hHeld
              generalize wr.drew = wzra at *
              refine wpAnyH_take (i := 0) (oi := ⟨some 35, _, _, _, _, _⟩) (v := ?vra1) rfl (by kernel_rfl) (by kernel_rfl) (by kernel_rfl) (fun _ _ _ h => h) (Or.inl ⟨by kernel_rfl, ?hyra1⟩) (by assumption) ?restra1
              case hyra1 => (intro W hSw; (try dsimp only at hSw); go_simp; try with_reducible rfl)
              case' restra1 => try simp only [Act.put, List.setIfInBounds_toArray, List.set_cons_zero, List.set_cons_succ]
              refine wpAnyH_take (i := 1) (oi := ⟨some 36, _, _, _, _, _⟩) (v := ?vra2) rfl (by kernel_rfl) (by kernel_rfl) (by kernel_rfl) (fun _ _ _ h => h) (Or.inl ⟨by kernel_rfl, ?hyra2⟩) (by assumption) ?restra2
              case hyra2 => (intro W hSw; (try dsimp only at hSw); go_simp; try with_reducible rfl)
              case' restra2 => try simp only [Act.put, List.setIfInBounds_toArray, List.set_cons_zero, List.set_cons_succ]
              refine wpAnyH_take (i := 2) (oi := ⟨some 37, _, _, _, _, _⟩) (v := ?vra3) rfl (by kernel_rfl) (by kernel_rfl) (by kernel_rfl) (fun _ _ _ h => h) (Or.inl ⟨by kernel_rfl, ?hyra3⟩) (by assumption) ?restra3
              case hyra3 => (intro W hSw; (try dsimp only at hSw); go_simp; try with_reducible rfl)
              case' restra3 => try simp only [Act.put, List.setIfInBounds_toArray, List.set_cons_zero, List.set_cons_succ]
              refine wpAnyH_take (i := 3) (oi := ⟨some 38, _, _, _, _, _⟩) (v := ?vra4) rfl (by kernel_rfl) (by kernel_rfl) (by kernel_rfl) (fun _ _ _ h => h) (Or.inl ⟨by kernel_rfl, ?hyra4⟩) (by assumption) ?restra4
              case hyra4 => (intro W hSw; refine Try.exec45 x (.tmp 37) ?_ bl (offl + n1 * 8) ?_ (HX.out W hSw) <;> rfl)
              case' restra4 => try simp only [Act.put, List.setIfInBounds_toArray, List.set_cons_zero, List.set_cons_succ]
              refine wpAnyH_take (i := 4) (oi := ⟨some 39, _, _, _, _, _⟩) (v := ?vra5) rfl (by kernel_rfl) (by kernel_rfl) (by kernel_rfl) (fun _ _ _ h => h) (Or.inl ⟨by kernel_rfl, ?hyra5⟩) (by assumption) ?restra5
              case hyra5 => (intro W hSw; (try dsimp only at hSw); go_simp; try with_reducible rfl)
              case' restra5 => try simp only [Act.put, List.setIfInBounds_toArray, List.set_cons_zero, List.set_cons_succ]
              refine wpAnyH_take (i := 5) (oi := ⟨some 40, _, _, _, _, _⟩) (v := ?vra6) rfl (by kernel_rfl) (by kernel_rfl) (by kernel_rfl) (fun _ _ _ h => h) (Or.inl ⟨by kernel_rfl, ?hyra6⟩) (by assumption) ?restra6
              case hyra6 => (intro W hSw; (try dsimp only at hSw); go_simp; try with_reducible rfl)
              case' restra6 => try simp only [Act.put, List.setIfInBounds_toArray, List.set_cons_zero, List.set_cons_succ]
              refine wpAnyH_take (i := 6) (oi := ⟨some 41, _, _, _, _, _⟩) (v := ?vra7) rfl (by kernel_rfl) (by kernel_rfl) (by kernel_rfl) (fun _ _ _ h => h) (Or.inl ⟨by kernel_rfl, ?hyra7⟩) (by assumption) ?restra7
              case hyra7 => (intro W hSw; (try dsimp only at hSw); go_simp; try with_reducible rfl)
              case' restra7 => try simp only [Act.put, List.setIfInBounds_toArray, List.set_cons_zero, List.set_cons_succ]
              refine wpAnyH_take (i := 7) (oi := ⟨some 42, _, _, _, _, _⟩) (v := ?vra8) rfl (by kernel_rfl) (by kernel_rfl) (by kernel_rfl) (fun _ _ _ h => h) (Or.inl ⟨by kernel_rfl, ?hyra8⟩) (by assumption) ?restra8
              case hyra8 => (intro W hSw; refine Try.exec45 z (.tmp 41) ?_ bl (offl + n2 * 8) ?_ (HY.out W hSw) <;> rfl)
              case' restra8 => try simp only [Act.put, List.setIfInBounds_toArray, List.set_cons_zero, List.set_cons_succ]
              refine wpAnyH_ready (rs := [8]) (by kernel_rfl) (by simp) ?_
              refine AllReadyH.cons (o := ⟨some 43, _, _, _, _, _⟩) rfl (fun K hK => ?_) AllReadyH.nil
              go_simp
              go_at_call 28
              refine (ov_hit x z wzra).mono ?_
              rintro e Wra1 ⟨rfl, hbWra1⟩
              have hSWra1 := hS1.trans (hbWra1.mono hS1.size)
              try clear hS1
              clear hbWra1
              go_wp2_with fail
              refine hK.out _ _ hSWra1 (fun hHeld => ?_)
              clear hK hHeld K
              try simp only [Act.put, List.setIfInBounds_toArray, List.set_cons_zero, List.set_cons_succ]
              refine wpAnyH_done (by kernel_rfl) ?_ _
              have hbs1 := hSWra1
              clear hSWra1 HX HY HG
              obtain ⟨q, hq⟩ : ∃ q, hitB x z = q := ⟨_, rfl⟩
              rw [hq]
              have HQ := Lib.hid hq
              clear hq
              have hownA := hown.below hbs1
              have hbwA := hbw.trans (hbs1.mono hbw.size)
              have hbxA := hbx.trans (hbs1.mono hbx.size)
              clear hown hbw hbx hbs1
              cases q
              · go_wp2
                go_roundw
                case rel => exact ⟨n + 1, by omega, by go_num, hownA, hbwA, hbxA, Lib.hid (fun j hj => by
                  rcases Nat.lt_succ_iff_lt_or_eq.1 hj with h2 | rfl
                  · exact hno2.out j h2
                  · rw [HHI.out]; exact HQ.out)⟩
                case measure => simp [intOf]; omega
              · have HF : Hid (fitsB l acc O[m]! = false) := Lib.hid (fits_no hln (by rw [HN1.out, HHI.out]; exact HQ.out))
                go_wp2
                go_roundw
                case rel => exact ⟨m + 1, by omega, by go_num, hownA, hbwA, hbxA, Lib.hid (fun j hj => by
                  rcases Nat.lt_succ_iff_lt_or_eq.1 hj with h2 | rfl
                  · exact hno.out j h2
                  · exact HF.out)⟩
                case measure => simp [intOf]; omega
            · obtain rfl : n = acc.length := by omega
              have hd3 : decide (acc.length < acc.length) = false := decide_eq_false (by omega)
              have HE : Hid (grK l F (k + 1) = acc ++ [(n1 : Int)]) := Lib.hid (by rw [HST.out, find_at hlm hno.out (by rw [HN1.out]; exact fits_yes hno2.out), HN1.out])
              have hsz := hbx.size
              go_wp2_with (at_builtin; refine Try.appI hown (n1 : Int) rfl _ _ rfl rfl rfl (by omega) (by omega) ?_; clear hown; intro v4 w5 hown4 hb4)
              simp only [Exit.noGoto_normal]
              go_wp2
              go_roundw
              case rel => exact ⟨k + 1, by omega, by go_num, by rw [HE.out]; exact hown4, hbw.trans (hb4.mono hw2), (hbx3.trans (hbx.mono hbx3.size)).trans hb4⟩
              case measure => simp [intOf]; omega
        · obtain rfl : m = O.length := by omega
          have hd2 : decide (O.length < O.length) = false := decide_eq_false (by omega)
          have HE : Hid (grK l F (k + 1) = acc) := Lib.hid (by rw [HST.out, find_no hno.out])
          obtain ⟨A0, c0, rfl⟩ := Own.slice hown
          go_wp2
          simp only [Exit.noGoto_normal]
          go_wp2
          go_roundw
          case rel => exact ⟨k + 1, by omega, by go_num, by rw [HE.out]; exact hown, hbw, hbx3.trans (hbx.mono hbx3.size)⟩
          case measure => simp [intOf]; omega
    · obtain rfl : k = F.length := by omega
      have hd : decide (F.length < F.length) = false := decide_eq_false (by omega)
      rw [HG.out] at hown hlen
      have hheld := own_held hown
      obtain ⟨A0, c0, rfl⟩ := Own.slice hown
      have hsz := hbx.size
      clear hown
      go_wp2_with fail
      refine (sort_held hheld (by omega)).mono ?_
      rintro e w5 ⟨rfl, hh5, hb5⟩
      have hb6 := hb5 hsz
      have hr5 := (held_rd hh5).2
      have hl5 := (held_rd hh5).1
      have hbe := hbw.trans (hb6.mono hw2)
      have hcap : gr.length ≤ c0 := by
        rcases hheld with ⟨_, _, he, h0⟩ | ⟨_, _, he, _, _, hc, _⟩
        · rw [h0]; exact Nat.zero_le _
        · injection he with _ _ he; rw [he]; exact hc
      have hfin : SlI w5 (.slice A0 gr.length c0) (gr.mergeSort fun x y => decide (x ≤ y)) := ⟨A0, c0, congrArg (fun n => Value.slice A0 n c0) hl5, by rw [← hl5]; exact hcap, hr5⟩
      have HFIN := Lib.hid hfin
      clear hheld hh5 hb5 hb6 hbw hbx hsz hl5 hr5 hfin
      go_wp2
      go_ret
      exact ⟨_, rfl, HFIN.out, hbe⟩
end Go.Proofs
/- What the program's exact search writes: its boxes and two rows of its own; its step. -/
set_option linter.unusedVariables false
set_option linter.unusedSimpArgs false
namespace Go.Proofs
open Go.RowKit Go.Proofs.Mp Go.Proofs.Uf Go.Maps

/-- below base all blocks but those of D are as they were -/
structure Kp (w0 : World) (base : Nat) (D : Nat → Prop) (W : World) : Prop where
  os : W.os = w0.os
  tape : W.tape = w0.tape
  output : W.output = w0.output
  size : base ≤ W.heap.size
  block : ∀ b, b < base → ¬ D b → W.heap[b]? = w0.heap[b]?
section
variable {w0 W W' : World} {base : Nat} {D : Nat → Prop}
theorem Kp.refl (h : base ≤ w0.heap.size) : Kp w0 base D w0 := ⟨rfl, rfl, rfl, h, fun _ _ _ => rfl⟩
theorem Kp.trans (h : Kp w0 base D W) (hb : Below base W W') : Kp w0 base D W' :=
  ⟨hb.os.trans h.os, hb.tape.trans h.tape, hb.output.trans h.output, Nat.le_trans h.size hb.size, fun b h1 h2 => (hb.block b h1).trans (h.block b h1 h2)⟩
theorem Kp.below (h : Kp w0 base D W) (hb : Below W.heap.size W W') : Kp w0 base D W' := h.trans (hb.mono h.size)
theorem Kp.drew (h : Kp w0 base D W) : Kp w0 base D W.drew := ⟨h.os, h.tape, h.output, h.size, h.block⟩
theorem Kp.setD (h : Kp w0 base D W) {p : Addr} (hp : D p.block) (u : Value) : Kp w0 base D (W.setCell p u) :=
  ⟨h.os, h.tape, h.output, by have := h.size; simpa [World.setCell] using this, fun b h1 h2 => (Below.heap_setCell _ _ _ _ (fun e => h2 (by rw [e]; exact hp))).trans (h.block b h1 h2)⟩
theorem Kp.cell (h : Kp w0 base D W) {p : Addr} (h1 : p.block < base) (h2 : ¬ D p.block) : W.cell? p = w0.cell? p := World.cell?_of_block (h.block _ h1 h2)
theorem Kp.toBelow (h : Kp w0 base D W) (hs : w0.heap.size ≤ W.heap.size) {n : Nat} (hn : n ≤ base) (hD : ∀ b, b < n → ¬ D b) : Below n w0 W :=
  ⟨h.os, h.tape, h.output, hs, fun b hb => h.block b (by omega) (hD b hb)⟩
theorem Kp.own {α : Type} {e : TypeId} {k lo : Nat} {enc : α → List Value} {v : Value} {xs : List α} (h : Kp w0 base D W) (ho : Own e k enc w0 lo v xs) (hD : ∀ b, v.ownBlock = some b → b < base ∧ ¬ D b) : Own e k enc W lo v xs := by
  obtain ⟨h1, h2⟩ := ho
  refine ⟨h1, ?_⟩
  rcases h2 with h2 | ⟨g, cap, cur, hv, hg, hh, r⟩
  · exact .inl h2
  · obtain ⟨a1, a2⟩ := hD g (by rw [hv]; rfl)
    exact .inr ⟨g, cap, cur, hv, hg, (h.block g a1 a2).trans hh, r⟩
theorem Kp.map {P : Program} {k : TypeId} {B N : Nat} {f : Int → Option Value} (h : Kp w0 base D W) (hM : MapV P k w0 B N f) (h1 : B < base) (h2 : ¬ D B) : MapV P k W B N f := by
  obtain ⟨d, ⟨es, clock, hh, r⟩, q⟩ := hM
  exact ⟨d, ⟨es, clock, (h.block B h1 h2).trans hh, r⟩, q⟩
end

/-- a box of one value -/
abbrev One1 (W : World) (b : Nat) (v : Value) (t : TypeId) : Prop := W.heap[b]? = some (.cells #[v] t (0, 0))
theorem One1.below {W W' : World} {b : Nat} {v : Value} {t : TypeId} (h : One1 W b v t) (hb : Below W.heap.size W W') : One1 W' b v t := (hb.block b (lt_of_block h)).trans h
theorem One1.other {W : World} {b : Nat} {v : Value} {t : TypeId} (h : One1 W b v t) {p : Addr} (hne : b ≠ p.block) (u : Value) : One1 (W.setCell p u) b v t := (Below.heap_setCell _ _ _ _ hne).trans h
/-- two rows of the call's own, in different blocks -/
def Two2 (W : World) (base : Nat) (vN : Value) (now : List Int) (vC : Value) (ys : List Int) : Prop :=
  OwnI 3 W base vN now ∧ OwnI 3 W base vC ys ∧ ∀ j, vN.ownBlock = some j → vC.ownBlock ≠ some j
section
variable {W W' : World} {base : Nat} {vN vC : Value} {now ys : List Int}
theorem Two2.below (h : Two2 W base vN now vC ys) (hb : Below W.heap.size W W') : Two2 W' base vN now vC ys := ⟨Own.below h.1 hb, Own.below h.2.1 hb, h.2.2⟩
theorem Two2.alloc (h : Two2 W base vN now vC ys) (o : Obj) : Two2 (W.alloc o) base vN now vC ys := ⟨Own.alloc h.1 o, Own.alloc h.2.1 o, h.2.2⟩
theorem Two2.set (h : Two2 W base vN now vC ys) {p : Addr} (hp : p.block < base) (u : Value) : Two2 (W.setCell p u) base vN now vC ys :=
  ⟨ownsRow_setCell_below h.1 hp u, ownsRow_setCell_below h.2.1 hp u, h.2.2⟩
theorem Two2.app {ops : Array Oper} {rest : List Oper} {o : Oper} {a : Act} {Q : Exit → Act → World → Prop} (h : Two2 W base vN now vC ys) (y : Int) (hgd : o.guard = none) (s x : Operand)
    (ho : o.op = .call { callee := .builtin .append, args := #[s, x], argTypes := #[23, 23] }) (hs : a.eval s = vN) (hx : a.eval x = .slice (some ⟨W.heap.size, 0, none⟩) 1 1)
    (hN : now.length ≤ 1000) (hbase : base ≤ W.heap.size)
    (hK : ∀ v' w', Two2 w' base v' (now ++ [y]) vC ys → Below base W w' → wpList Try.prog ops Q rest (a.put o.dst v') w') :
    wpList Try.prog ops Q (o :: rest) a (W.alloc (.cells #[.int .i64 y] 3)) := by
  obtain ⟨i0, hi, hz0, hz1, hz2⟩ := Mp.info_parts Try.infoI
  have h1 := h.alloc (.cells #[.int .i64 y] 3)
  have hsz : (W.alloc (.cells #[.int .i64 y] 3)).heap.size = W.heap.size + 1 := by simp
  obtain ⟨v', w', hr, r1, r2, _, r4⟩ := run_append_own_at (P := Try.prog) (W.alloc (.cells #[.int .i64 y] 3)) base 23 o.type 3 i0 (.int .i64 0) 1 8 Try.underlying23 hi hz0 hz1 hz2 rfl (by decide) _ _ _ h1.1 ⟨W.heap.size, 0, none⟩ 1 1 [.int .i64 y] rfl
    (by
      intro j z hj
      rcases j with _ | j
      · simp at hj; subst hj
        rw [show (⟨W.heap.size, 0, none⟩ : Addr).add 0 = ⟨W.heap.size, 0, none⟩ by unfold Addr.add; simp]
        unfold World.cell?; rw [heap_alloc_last]; rfl
      · simp at hj) (by intro z hz; simp at hz; subst hz; rfl) (by unfold maxLen; omega) (by omega) (by rw [hsz]; omega)
  have hbel : Below base W w' := ((Below.refl _ _).alloc hbase _).grown r2 (by rw [hsz]; omega) (fun k hk => (World.ownsRow.lt h1.1 k hk).1)
  have hC : OwnI 3 w' base vC ys := World.ownsRow.kept h1.2.1 r2 (by
    rcases hb : vC.ownBlock with _ | j
    · exact .inl rfl
    · right
      intro e
      exact h.2.2 j e.symm hb)
  refine wpList_plain hgd fun K' hK' => ?_
  unfold Oper.wp execOp
  simp only [ho, resolve, invoke, builtin, Sem.run_bind, Sem.run_pure, Result.andThen_ok, List.map_toArray, List.map_cons, List.map_nil, hs, hx, hr]
  refine hK' _ _ (hK _ _ ⟨?_, hC, ?_⟩ hbel)
  · show w'.ownsRow base 3 1 v' (now ++ [y]).length ((now ++ [y]).flatMap Mp.encI)
    simpa [Mp.encI] using r1
  · intro j hj hj'
    rcases r4 with r4 | r4
    · exact h.2.2 j (r4 ▸ hj) hj'
    · rw [r4] at hj
      injection hj with hj
      have := (World.ownsRow.lt h.2.1 j hj').2
      omega
theorem Own.pop {e : TypeId} {A : Addr} {n c : Nat} {x : Int} (h : OwnI e W base (.slice (some A) n c) (now ++ [x])) : OwnI e W base (.slice (some A) now.length c) now := by
  obtain ⟨h1, h2⟩ := h
  rcases h2 with ⟨h2, _⟩ | ⟨g, cap, cur, hv, hg, hh, hn, hm, hs, ht⟩
  · cases h2
  · injection hv with e1 e2 e3
    subst e2; subst e3
    rw [List.length_append] at hn ht
    have h3 : (now.flatMap Mp.encI).length = now.length * 1 := by
      clear h1 ht hn
      induction now with
      | nil => rfl
      | cons z zs ih => rw [List.flatMap_cons, List.length_append, ih, List.length_cons]; simp [Mp.encI]; omega
    refine ⟨h3, .inr ⟨g, c, cur, by rw [e1], hg, hh, by simp at hn; omega, hm, hs, ?_⟩⟩
    have h4 : cur.toList.take (now.length * 1) = ((now ++ [x]).flatMap Mp.encI).take (now.length * 1) := by
      rw [← ht, List.take_take]
      congr 1
      simp
    rw [h4, List.flatMap_append, ← h3, List.take_left]
end
theorem own_addr {e : TypeId} {W : World} {base n c : Nat} {A : Option Addr} {xs : List Int} {x : Int} (h : OwnI e W base (.slice A n c) (xs ++ [x])) : ∃ g, A = some ⟨g, 0, none⟩ ∧ n = xs.length + 1 ∧ xs.length + 1 ≤ c := by
  rcases h.2 with ⟨_, h2⟩ | ⟨g, cap, cur, hv, hg, hh, hn, _⟩
  · simp at h2
  · injection hv with e1 e2 e3
    subst e3
    exact ⟨g, e1, by simpa using e2, by simpa using hn⟩

/-- a copy of a row of the call's own -/
theorem clone_own {W : World} {base : Nat} {v : Value} {xs : List Int} (h : OwnI 3 W base v xs) (hl : xs.length ≤ 1000) :
    Calls Try.prog 43 #[v] W fun e w' => ∃ v', e = .returned v' ∧ OwnI 3 w' W.heap.size v' xs ∧ Below W.heap.size W w' := by
  have h0 := h
  rcases h.2 with ⟨rfl, hn⟩ | ⟨g, cap, cur, rfl, hb, hh, hnc, hm, hcs, htake⟩
  · have hx : xs = [] := List.eq_nil_of_length_eq_zero hn
    subst hx
    exact (Try.slices_Clone_int_nil 0 0 W).mono fun e w' ⟨he, hw⟩ => by
      subst hw
      exact ⟨_, he, Own.nil _ _, Below.refl _ _⟩
  · by_cases hz : xs = []
    · subst hz
      exact (Try.slices_Clone_int_zero ⟨g, 0, none⟩ cap W).mono fun e w' ⟨v', he, ho, _, hb⟩ => ⟨v', he, ho, hb⟩
    · have hp : 0 < xs.length := List.length_pos_iff.2 hz
      have hR : RdI W (some ⟨g, 0, none⟩) xs := Own.rd encI_len h0
      obtain ⟨b, off, he, _, hc⟩ := RdI.getAll hR (Below.refl _ _) hp
      injection he with he
      injection he with h1 h2 h3
      subst h1; subst h2
      refine (Try.slices_Clone_int g 0 xs.length cap xs W (Nat.le_refl _) (by omega) (fun j hj => ?_)).mono fun e w' ⟨v', he, ho, _, hb⟩ => ⟨v', he, ?_, hb⟩
      · rw [hc j hj, List.getD_eq_getElem?_getD, getElem!_pos xs j hj, List.getElem?_eq_getElem hj]; rfl
      · unfold OwnI Own
        rw [List.take_length] at ho
        have e1 : ∀ r : List Int, r.map (Value.int .i64) = r.flatMap Mp.encI := fun r => by
          induction r with
          | nil => rfl
          | cons z zs ih => rw [List.map_cons, List.flatMap_cons, ih]; rfl
        rw [e1] at ho
        exact ho

/-- the step: one less is left -/
theorem step41 (bT : Nat) (z : Int) (W : World) (h : One1 W bT (.int .i64 z) 3) (hz : -1000000 < z ∧ z < 1000000) {b : Bool} (hb : decide (1 ≤ z) = b) :
    Calls Try.prog 41 #[.pointer (some ⟨bT, 0, none⟩)] W fun e w' => e = .returned (.bool b) ∧ w' = W.setCell ⟨bT, 0, none⟩ (.int .i64 (z - 1)) := by
  have hc := cell_of_one h
  have hf := free_of_one h
  have hc2 : (W.setCell ⟨bT, 0, none⟩ (.int .i64 (z - 1))).cell? ⟨bT, 0, none⟩ = some (.int .i64 (z - 1)) := cell_of_one (one_setCell h)
  have HB := Lib.hid hb
  obtain ⟨h1, h2⟩ := hz
  clear h hb
  go_enter Try.func41, Try.ntmps41
  go_wp2_with fail
  rw [HB.out]
  go_ret
  exact ⟨rfl, rfl⟩
end Go.Proofs
/- Plain: the greedy choice has no repetitions. -/
set_option linter.unusedVariables false
set_option linter.unusedSimpArgs false
namespace Go.Proofs
open Go.RowKit Go.Proofs.Mp Go.Proofs.Uf

theorem grK_feat (l : List Cand) (F : List Int) : ∀ k, k ≤ F.length → ∀ x ∈ grK l F k, l[x.toNat]!.f ∈ F.take k
  | 0, _ => by simp [grK]
  | k + 1, h => by
    have ih := grK_feat l F k (by omega)
    have hsub : ∀ z, z ∈ F.take k → z ∈ F.take (k + 1) := fun z hz => by
      rw [List.take_succ_eq_append_getElem (by omega)]; exact List.mem_append_left _ hz
    rw [grK_succ l (by omega)]
    rcases grStep_cases l (grK l F k) F[k]! with e | ⟨i, hi, _, e⟩
    · rw [e]; exact fun x hx => hsub _ (ih x hx)
    · rw [e]
      intro x hx
      rcases List.mem_append.1 hx with hx | hx
      · exact hsub _ (ih x hx)
      · rw [List.mem_singleton.1 hx, (ordL_mem hi).2, List.take_succ_eq_append_getElem (show k < F.length by omega), getElem!_pos F k (by omega)]
        exact List.mem_append_right _ (List.mem_singleton.2 rfl)
theorem grK_nodup (l : List Cand) {F : List Int} (hF : F.Nodup) : ∀ k, k ≤ F.length → (grK l F k).Nodup
  | 0, _ => by simp [grK]
  | k + 1, h => by
    have ih := grK_nodup l hF k (by omega)
    rw [grK_succ l (by omega)]
    rcases grStep_cases l (grK l F k) F[k]! with e | ⟨i, hi, _, e⟩
    · rw [e]; exact ih
    · rw [e, List.nodup_append]
      refine ⟨ih, by simp, fun a ha b hb e2 => ?_⟩
      rw [List.mem_singleton] at hb
      subst hb; subst e2
      have h1 := grK_feat l F k (by omega) a ha
      rw [(ordL_mem hi).2, getElem!_pos F k (by omega)] at h1
      have h2 := hF
      rw [← List.take_append_drop k F, List.nodup_append] at h2
      exact h2.2.2 _ h1 _ (by rw [List.drop_eq_getElem_cons (by omega)]; exact List.mem_cons_self) rfl
theorem greedyR_nodup (l : List Cand) (order : List Int) : (greedyR l order).Nodup := by
  rw [← grK_all]; exact grK_nodup l (distL_nodup order) _ (Nat.le_refl _)
theorem greedyR_in (l : List Cand) (order : List Int) : ∀ x ∈ greedyR l order, inB l.length x = true := by
  rw [← grK_all]; exact grK_in l _ _ (Nat.le_refl _)
theorem setL_nodup {zs : List Int} (h : zs.Nodup) : setL zs = zs.mergeSort fun x y => decide (x ≤ y) := by
  refine Asc.unique (setL_asc zs) ?_ fun x => by rw [setL_mem, List.mem_mergeSort]
  have h1 : (zs.mergeSort fun x y => decide (x ≤ y)).Pairwise fun a b => decide (a ≤ b) = true :=
    List.pairwise_mergeSort (fun a b c h1 h2 => by simp at *; omega) (fun a b => by simp; omega) zs
  have h2 : (zs.mergeSort fun x y => decide (x ≤ y)).Pairwise (· ≠ ·) := (List.mergeSort_perm zs _).nodup_iff.2 h
  exact (h1.and h2).imp fun {a b} ⟨h3, h4⟩ => by
    have : a ≤ b := by simpa using h3
    omega
theorem place_greedy (u v : Value) (l : List Cand) (order : List Int) (w : World) (hl : l.length ≤ 1000) (ho : order.length ≤ 1000) (hwf : wfs (feats l)) (hwo : wfs order) (hu : SlC w u l) (hv : SlI w v order) :
    Calls Try.prog 17 #[u, v] w (PostS w (greedyL l order)) := by
  rw [show greedyL l order = (greedyR l order).mergeSort fun x y => decide (x ≤ y) from setL_nodup (greedyR_nodup l order)]
  exact place_greedy0 u v l order w hl ho hwf hwo hu hv
end Go.Proofs
/- Plain: the greedy choice is valid. -/
set_option linter.unusedVariables false
set_option linter.unusedSimpArgs false
namespace Go.Proofs
open Go.RowKit Go.Proofs.Mp Go.Proofs.Uf

def apartI (l : List Cand) (a b : Int) : Prop := hitI l a b = false ∧ hitI l b a = false
theorem overB_swap (a b : Cand) : overB a b = overB b a := by
  unfold overB
  rw [Bool.eq_iff_iff]
  simp only [Bool.and_eq_true, decide_eq_true_iff]
  omega
theorem hitI_swap (l : List Cand) (a b : Int) : hitI l a b = hitI l b a := by
  unfold hitI hitB
  rw [overB_swap]
  congr 1
  exact decide_eq_decide.2 eq_comm
theorem grK_apart (l : List Cand) (F : List Int) : ∀ k, k ≤ F.length → (grK l F k).Pairwise (apartI l)
  | 0, _ => by simp [grK]
  | k + 1, h => by
    have ih := grK_apart l F k (by omega)
    rw [grK_succ l (by omega)]
    rcases grStep_cases l (grK l F k) F[k]! with e | ⟨i, hi, hf, e⟩
    · rw [e]; exact ih
    · rw [e, List.pairwise_append]
      refine ⟨ih, List.pairwise_singleton _ _, fun a ha b hb => ?_⟩
      rw [List.mem_singleton] at hb
      subst hb
      unfold fitsB at hf
      rw [List.all_eq_true] at hf
      have h1 : hitI l b a = false := by have := hf a ha; simpa using this
      exact ⟨by rw [hitI_swap]; exact h1, h1⟩
theorem greedyL_apart (l : List Cand) (order : List Int) : (greedyL l order).Pairwise (apartI l) := by
  have h : (greedyR l order).Pairwise (apartI l) := by rw [← grK_all]; exact grK_apart l _ _ (Nat.le_refl _)
  unfold greedyL
  rw [setL_nodup (greedyR_nodup l order)]
  exact (List.mergeSort_perm _ _).symm.pairwise h (fun {a b} h => ⟨h.2, h.1⟩)
theorem greedyL_free (l : List Cand) (order : List Int) : freeP l (greedyL l order) := by
  intro n hn m hm
  have := (List.pairwise_iff_getElem.1 (greedyL_apart l order)) m n (by omega) hn hm
  rw [getElem!_pos _ n hn, getElem!_pos _ m (by omega)]
  exact this.2
theorem greedyL_in (l : List Cand) (order : List Int) : ∀ x ∈ greedyL l order, inB l.length x = true := fun x hx =>
  greedyR_in l order x ((setL_mem _ x).1 hx)
theorem greedyL_valid (l : List Cand) (order : List Int) : validB l (greedyL l order) = true :=
  validB_yes ((ascB_iff _).2 (setL_asc _)) (fun j hj => greedyL_in l order _ (getMem hj)) (greedyL_free l order)
end Go.Proofs
/- Plain: the exact search, what it finds, and that nothing valid is better. -/
set_option linter.unusedVariables false
set_option linter.unusedSimpArgs false
namespace Go.Proofs
open Go.RowKit Go.Proofs.Mp Go.Proofs.Uf

/-- the search's state: the steps made, and the last complete choice -/
structure XS where
  made : Nat
  best : Option (List Int)
def roomB (x : XS) (m : Nat) : Bool := match x.best with
  | none => true
  | some b => decide (b.length < m)
def stepX (lim : Nat) (x : XS) : Option XS := if x.made < lim then some ⟨x.made + 1, x.best⟩ else none
def tryS (l : List Cand) (lim : Nat) (g : List Int → XS → Option XS) (n : Nat) (now : List Int) (o : Option XS) (i : Int) : Option XS :=
  o.bind fun x => if fitsB l now i = true ∧ roomB x (now.length + 1 + n) = true then (stepX lim x).bind (g (now ++ [i])) else some x
def lastS (lim : Nat) (g : List Int → XS → Option XS) (n : Nat) (now : List Int) (x : XS) : Option XS :=
  if roomB x (now.length + n) = true then (stepX lim x).bind (g now) else some x
def srch (l : List Cand) (lim : Nat) : List Int → List Int → XS → Option XS
  | [], now, x => some ⟨x.made, some now⟩
  | f :: fs, now, x => ((ordL l f).foldl (tryS l lim (srch l lim fs) fs.length now) (some x)).bind (lastS lim (srch l lim fs) fs.length now)
theorem foldTry_none (l : List Cand) (lim : Nat) (g : List Int → XS → Option XS) (n : Nat) (now : List Int) : ∀ O : List Int, O.foldl (tryS l lim g n now) none = none
  | [] => rfl
  | i :: O => foldTry_none l lim g n now O

/-- the first of the longest -/
def pick (o : Option (List Int)) (c : List Int) : Option (List Int) := match o with
  | none => some c
  | some b => if b.length < c.length then some c else some b
def allC (l : List Cand) : List Int → List Int → List (List Int)
  | [], now => [now]
  | f :: fs, now => ((ordL l f).filter (fitsB l now)).flatMap (fun i => allC l fs (now ++ [i])) ++ allC l fs now
theorem pick_stuck {b : List Int} : ∀ {L : List (List Int)}, (∀ c ∈ L, c.length ≤ b.length) → L.foldl pick (some b) = some b
  | [], _ => rfl
  | c :: L, h => by
    rw [List.foldl_cons]
    have : pick (some b) c = some b := if_neg (by have := h c List.mem_cons_self; omega)
    rw [this]
    exact pick_stuck fun c hc => h c (List.mem_cons_of_mem _ hc)
theorem allC_len {l : List Cand} : ∀ (fs now c : List Int), c ∈ allC l fs now → c.length ≤ now.length + fs.length
  | [], now, c, h => by
    unfold allC at h
    rw [List.mem_singleton.1 h]; simp
  | f :: fs, now, c, h => by
    unfold allC at h
    rcases List.mem_append.1 h with h | h
    · obtain ⟨i, _, h⟩ := List.mem_flatMap.1 h
      have := allC_len fs _ c h
      simp at *; omega
    · have := allC_len fs _ c h
      simp at *; omega
theorem room_no {x : XS} {m : Nat} (h : ¬ roomB x m = true) : ∃ b, x.best = some b ∧ m ≤ b.length := by
  unfold roomB at h
  rcases hb : x.best with _ | b
  · rw [hb] at h; exact absurd rfl h
  · rw [hb] at h
    exact ⟨b, rfl, by simpa using h⟩
theorem stepX_some {lim : Nat} {x y : XS} (h : stepX lim x = some y) : y.best = x.best ∧ y.made = x.made + 1 ∧ x.made < lim := by
  unfold stepX at h
  split at h
  · rename_i hl
    injection h with h
    subst h
    exact ⟨rfl, rfl, hl⟩
  · cases h
theorem room_pick {x : XS} {now : List Int} (h : roomB x now.length = true) : pick x.best now = some now := by
  unfold roomB at h
  unfold pick
  split
  · rfl
  · rename_i b hb
    rw [hb] at h
    rw [if_pos (by simpa using h)]
theorem foldTry_pick {l : List Cand} {lim : Nat} {g : List Int → XS → Option XS} {n : Nat} {now : List Int} {A : List Int → List (List Int)}
    (hg : ∀ i x y, roomB x (now.length + 1 + n) = true → g (now ++ [i]) x = some y → y.best = (A (now ++ [i])).foldl pick x.best ∧ (x.made ≤ lim → y.made ≤ lim))
    (hA : ∀ i, ∀ c ∈ A (now ++ [i]), c.length ≤ now.length + 1 + n) : ∀ (O : List Int) (x y : XS), O.foldl (tryS l lim g n now) (some x) = some y →
    y.best = ((O.filter (fitsB l now)).flatMap fun i => A (now ++ [i])).foldl pick x.best ∧ (x.made ≤ lim → y.made ≤ lim)
  | [], x, y, h => by
    injection h with h
    subst h
    exact ⟨rfl, fun h => h⟩
  | i :: O, x, y, h => by
    rw [List.foldl_cons] at h
    by_cases hf : fitsB l now i = true
    · rw [List.filter_cons_of_pos hf, List.flatMap_cons, List.foldl_append]
      by_cases hr : roomB x (now.length + 1 + n) = true
      · have e : tryS l lim g n now (some x) i = (stepX lim x).bind (g (now ++ [i])) := by
          unfold tryS
          rw [Option.bind_some, if_pos ⟨hf, hr⟩]
        rw [e] at h
        rcases hs : stepX lim x with _ | x1
        · rw [hs, Option.bind_none, foldTry_none] at h; cases h
        · rw [hs, Option.bind_some] at h
          obtain ⟨s1, s2, s3⟩ := stepX_some hs
          rcases hg1 : g (now ++ [i]) x1 with _ | x2
          · rw [hg1, foldTry_none] at h; cases h
          · rw [hg1] at h
            have hr1 : roomB x1 (now.length + 1 + n) = true := by unfold roomB at *; rw [s1]; exact hr
            obtain ⟨g1, g2⟩ := hg i x1 x2 hr1 hg1
            obtain ⟨i1, i2⟩ := foldTry_pick hg hA O x2 y h
            rw [i1, g1, s1]
            exact ⟨rfl, fun _ => i2 (g2 (by omega))⟩
      · have e : tryS l lim g n now (some x) i = some x := by
          unfold tryS
          rw [Option.bind_some, if_neg (fun h => hr h.2)]
        rw [e] at h
        obtain ⟨b, hb, hm⟩ := room_no hr
        obtain ⟨i1, i2⟩ := foldTry_pick hg hA O x y h
        rw [i1, hb, pick_stuck (fun c hc => Nat.le_trans (hA i c hc) hm)]
        exact ⟨rfl, i2⟩
    · rw [List.filter_cons_of_neg hf]
      have e : tryS l lim g n now (some x) i = some x := by
        unfold tryS
        rw [Option.bind_some, if_neg (fun h => hf h.1)]
      rw [e] at h
      exact foldTry_pick hg hA O x y h
theorem srch_pick (l : List Cand) (lim : Nat) : ∀ (fs now : List Int) (x y : XS), roomB x (now.length + fs.length) = true → srch l lim fs now x = some y → y.best = (allC l fs now).foldl pick x.best ∧ (x.made ≤ lim → y.made ≤ lim)
  | [], now, x, y, hr, h => by
    unfold srch at h
    injection h with h
    subst h
    refine ⟨?_, fun h => h⟩
    show some now = pick x.best now
    rw [room_pick (by simpa using hr)]
  | f :: fs, now, x, y, hr, h => by
    unfold srch at h
    rcases h1 : (ordL l f).foldl (tryS l lim (srch l lim fs) fs.length now) (some x) with _ | x1
    · rw [h1] at h; cases h
    · rw [h1, Option.bind_some] at h
      obtain ⟨a1, a2⟩ := foldTry_pick (A := allC l fs) (fun i x y hr hg => srch_pick l lim fs (now ++ [i]) x y (by simpa using hr) hg) (fun i c hc => by have := allC_len fs _ c hc; simpa using this) _ x x1 h1
      show y.best = (((ordL l f).filter (fitsB l now)).flatMap (fun i => allC l fs (now ++ [i])) ++ allC l fs now).foldl pick x.best ∧ _
      rw [List.foldl_append, ← a1]
      unfold lastS at h
      by_cases hr1 : roomB x1 (now.length + fs.length) = true
      · rw [if_pos hr1] at h
        rcases hs : stepX lim x1 with _ | x2
        · rw [hs] at h; cases h
        · rw [hs, Option.bind_some] at h
          obtain ⟨s1, s2, s3⟩ := stepX_some hs
          have hr2 : roomB x2 (now.length + fs.length) = true := by unfold roomB at *; rw [s1]; exact hr1
          obtain ⟨g1, g2⟩ := srch_pick l lim fs now x2 y hr2 h
          rw [g1, s1]
          exact ⟨rfl, fun _ => g2 (by omega)⟩
      · rw [if_neg hr1] at h
        injection h with h
        subst h
        obtain ⟨b, hb, hm⟩ := room_no hr1
        rw [hb, pick_stuck (fun c hc => Nat.le_trans (allC_len fs _ c hc) hm)]
        exact ⟨rfl, a2⟩
/-- more steps change nothing -/
theorem foldTry_more {l : List Cand} {lim lim' : Nat} (hl : lim ≤ lim') {g g' : List Int → XS → Option XS} {n : Nat} {now : List Int} (hg : ∀ c x y, g c x = some y → g' c x = some y) :
    ∀ (O : List Int) (x y : XS), O.foldl (tryS l lim g n now) (some x) = some y → O.foldl (tryS l lim' g' n now) (some x) = some y
  | [], x, y, h => h
  | i :: O, x, y, h => by
    rw [List.foldl_cons] at h ⊢
    by_cases hf : fitsB l now i = true ∧ roomB x (now.length + 1 + n) = true
    · have e : ∀ lim g, tryS l lim g n now (some x) i = (stepX lim x).bind (g (now ++ [i])) := fun lim g => by
        unfold tryS
        rw [Option.bind_some, if_pos hf]
      rw [e] at h ⊢
      rcases hs : stepX lim x with _ | x1
      · rw [hs, Option.bind_none, foldTry_none] at h; cases h
      · rw [hs, Option.bind_some] at h
        have hs' : stepX lim' x = some x1 := by
          unfold stepX at *
          split at hs
          · rw [if_pos (by omega)]; exact hs
          · cases hs
        rw [hs', Option.bind_some]
        rcases hg1 : g (now ++ [i]) x1 with _ | x2
        · rw [hg1, foldTry_none] at h; cases h
        · rw [hg1] at h
          rw [hg _ _ _ hg1]
          exact foldTry_more hl hg O x2 y h
    · have e : ∀ lim g, tryS l lim g n now (some x) i = some x := fun lim g => by
        unfold tryS
        rw [Option.bind_some, if_neg hf]
      rw [e] at h ⊢
      exact foldTry_more hl hg O x y h
theorem srch_more (l : List Cand) {lim lim' : Nat} (hl : lim ≤ lim') : ∀ (fs now : List Int) (x y : XS), srch l lim fs now x = some y → srch l lim' fs now x = some y
  | [], now, x, y, h => h
  | f :: fs, now, x, y, h => by
    unfold srch at h ⊢
    rcases h1 : (ordL l f).foldl (tryS l lim (srch l lim fs) fs.length now) (some x) with _ | x1
    · rw [h1] at h; cases h
    · rw [h1, Option.bind_some] at h
      rw [foldTry_more hl (fun c x y => srch_more l hl fs c x y) _ x x1 h1, Option.bind_some]
      unfold lastS at h ⊢
      split
      · rename_i hr
        rw [if_pos hr] at h
        rcases hs : stepX lim x1 with _ | x2
        · rw [hs] at h; cases h
        · rw [hs, Option.bind_some] at h
          have hs' : stepX lim' x1 = some x2 := by
            unfold stepX at *
            split at hs
            · rw [if_pos (by omega)]; exact hs
            · cases hs
          rw [hs', Option.bind_some]
          exact srch_more l hl fs now x2 y h
      · rename_i hr
        rw [if_neg hr] at h
        exact h
end Go.Proofs
