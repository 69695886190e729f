/- Better, the reference's and the program's. -/
import Derived.Test.YtaaejdhdkipdlaaXJ6
set_option linter.unusedVariables false
set_option linter.unusedSimpArgs false
namespace Go.Proofs
open Go.RowKit Go.Proofs.Mp Go.Proofs.Uf

def costB (x y : Cand) (i j : Int) : Bool := decide (x.co < y.co) || (decide (x.co = y.co) && decide (i < j))
theorem costB_lt {x y : Cand} {i j : Int} (h : x.co < y.co) : costB x y i j = true := by unfold costB; rw [decide_eq_true h]; rfl
theorem costB_eq {x y : Cand} {i j : Int} (h : x.co = y.co) : costB x y i j = decide (i < j) := by
  unfold costB
  rw [decide_eq_false (by omega : ¬ x.co < y.co), decide_eq_true h]; rfl
theorem costB_gt {x y : Cand} {i j : Int} (h : y.co < x.co) : costB x y i j = false := by
  unfold costB
  rw [decide_eq_false (by omega : ¬ x.co < y.co), decide_eq_false (by omega : ¬ x.co = y.co)]; rfl
/-- what one feature decides -/
def stepB (l : List Cand) (p q : Option Int) : Option Bool :=
  match p, q with
  | none, none => none
  | some _, none => some true
  | none, some _ => some false
  | some i, some j => if i = j then none else some (costB l[i.toNat]! l[j.toNat]! i j)
def lexB (l : List Cand) (a b : List Int) : List Int → Bool
  | [] => false
  | f :: r => match stepB l (choiceO l a f) (choiceO l b f) with
    | some x => x
    | none => lexB l a b r
def betterB (l : List Cand) (order a b : List Int) : Bool :=
  if placedN l (distL order) a ≠ placedN l (distL order) b then decide (placedN l (distL order) b < placedN l (distL order) a) else lexB l a b (distL order)
theorem lexB_some {l : List Cand} {a b F : List Int} {k : Nat} {x : Bool} (hk : k < F.length) (h : stepB l (choiceO l a F[k]!) (choiceO l b F[k]!) = some x) : lexB l a b (F.drop k) = x := by
  rw [List.drop_eq_getElem_cons hk]
  rw [getElem!_pos F k hk] at h
  show (match stepB l (choiceO l a F[k]) (choiceO l b F[k]) with | some x => x | none => lexB l a b (F.drop (k + 1))) = x
  rw [h]
theorem lexB_none {l : List Cand} {a b F : List Int} {k : Nat} (hk : k < F.length) (h : stepB l (choiceO l a F[k]!) (choiceO l b F[k]!) = none) : lexB l a b (F.drop k) = lexB l a b (F.drop (k + 1)) := by
  conv => lhs; rw [List.drop_eq_getElem_cons hk]
  rw [getElem!_pos F k hk] at h
  show (match stepB l (choiceO l a F[k]) (choiceO l b F[k]) with | some x => x | none => lexB l a b (F.drop (k + 1))) = _
  rw [h]
theorem Mp.Own.sl49 {w : World} {base : Nat} {v : Value} {xs : List Int} (h : OwnI 3 w base v xs) : SlI w v xs := Mp.Own.sl h
set_option maxRecDepth 100000 in
set_option maxHeartbeats 4000000 in
theorem ref_better (u v x y : Value) (l : List Cand) (order a b : List Int) (w : World) (hl : l.length ≤ 1000) (ho : order.length ≤ 1000) (ha : a.length ≤ 1000) (hb : b.length ≤ 1000) (hu : SlC w u l) (hv : SlI w v order) (hx : SlI w x a) (hy : SlI w y b) :
    Calls Try.prog 16 #[u, v, x, y] w (RetV w (.bool (betterB l order a b))) := by
  have hdl := distL_len order
  have CF := Lib.hid (ref_features49 v order w ho hv)
  have CP := Lib.hid (fun (W : World) (hb' : Below w.heap.size w W) (z : Value) (F : List Int) (hF : F.length ≤ 1000) (hz : SlI W z F) => ref_placed u z x l F a W hl hF ha (hu.below hb') hz (hx.below hb'))
  have CQ := Lib.hid (fun (W : World) (hb' : Below w.heap.size w W) (z : Value) (F : List Int) (hF : F.length ≤ 1000) (hz : SlI W z F) => ref_placed u z y l F b W hl hF hb (hu.below hb') hz (hy.below hb'))
  have CA0 := Lib.hid (fun (W : World) (hb' : Below w.heap.size w W) (f : Int) => ref_choice u x l a f W hl ha (hu.below hb') (hx.below hb'))
  have CB0 := Lib.hid (fun (W : World) (hb' : Below w.heap.size w W) (f : Int) => ref_choice u y l b f W hl hb (hu.below hb') (hy.below hb'))
  obtain ⟨A, ca, rfl, hca, hR⟩ := hu
  have HR := Lib.hid hR
  have HBET : Hid (betterB l order a b = if placedN l (distL order) a ≠ placedN l (distL order) b then decide (placedN l (distL order) b < placedN l (distL order) a) else lexB l a b (distL order)) := Lib.hid rfl
  generalize betterB l order a b = bet at *
  generalize distL order = F at *
  clear hR hv hx hy
  go_enter Try.func16, Try.ntmps16
  go_wp2_with fail
  refine CF.out.mono ?_
  rintro e w1 ⟨vF, rfl, hF, hb1⟩
  have sF := hF.sl
  clear hF CF
  go_wp2_with fail
  refine (CP.out _ hb1 _ _ (by omega) sF).mono ?_
  rintro e w2 ⟨rfl, hb2⟩
  have k2 := hb1.trans (hb2.mono hb1.size)
  have sF2 := sF.below hb2
  go_wp2_with fail
  refine (CQ.out _ k2 _ _ (by omega) sF2).mono ?_
  rintro e w3 ⟨rfl, hb3⟩
  have k3 := k2.trans (hb3.mono k2.size)
  have sF3 := sF2.below hb3
  clear sF sF2 hb1 hb2 hb3 k2 CP CQ
  obtain ⟨p, hp⟩ : ∃ p, placedN l F a = p := ⟨_, rfl⟩
  obtain ⟨q, hq⟩ : ∃ q, placedN l F b = q := ⟨_, rfl⟩
  rw [hp, hq] at HBET
  rw [hp, hq]
  clear hp hq
  by_cases hpq : p = q
  rotate_left
  · have hn : ((p : Int) != (q : Int)) = true := by rw [bne_iff_ne]; omega
    have hn2 : (p != q) = true := by rw [bne_iff_ne]; exact hpq
    have HE : Hid (bet = decide (q < p)) := Lib.hid (by rw [HBET.out, if_pos hpq])
    clear hpq
    go_wp2
    go_ret
    exact RetV.bool (by rw [HE.out]) k3
  subst hpq
  have hn : ((p : Int) != (p : Int)) = false := by simp
  have hn2 : (p != p) = false := by simp
  have HE : Hid (bet = lexB l a b F) := Lib.hid (by rw [HBET.out, if_neg (fun h => h rfl)])
  obtain ⟨AF, cF, rfl, hcF, hRF⟩ := sF3
  have HRF := Lib.hid hRF
  clear HBET hRF
  go_wp2_with fail
  clear hn hn2
  go_loopw [12] (fun i wr => ∃ k : Nat, k ≤ F.length ∧ i = .int .i64 k ∧ Hid (lexB l a b F = lexB l a b (F.drop k)) ∧ Below w.heap.size w wr ∧ Below w3.heap.size w3 wr) (fun i _ => F.length - (intOf i).toNat)
  case atStart => exact ⟨0, Nat.zero_le _, rfl, Lib.hid rfl, k3, Below.refl _ _⟩
  case round =>
    obtain ⟨k, hk, rfl, hlex, hbw, hbx⟩ := hrel
    by_cases hlt : k < F.length
    · obtain ⟨b', off, rfl, hb', HCF⟩ := RdI.cells HRF.out (show 0 < F.length by omega)
      obtain ⟨y, hy⟩ : ∃ y, F[k]! = y := ⟨_, rfl⟩
      have HFC := Lib.hid (fun (W : World) (hW : Below wr.heap.size wr W) => (by have := HCF W (hbx.trans (hW.mono hbx.size)) k hlt; rwa [hy] at this : W.cell? ⟨b', off + k, none⟩ = some (.int .i64 y)))
      have HY := Lib.hid hy
      have CA := Lib.hid (fun (W : World) (hW : Below wr.heap.size wr W) (f : Int) => CA0.out W (hbw.trans (hW.mono hbw.size)) f)
      have CB := Lib.hid (fun (W : World) (hW : Below wr.heap.size wr W) (f : Int) => CB0.out W (hbw.trans (hW.mono hbw.size)) f)
      have hd : decide (k < F.length) = true := decide_eq_true hlt
      clear hy HCF
      have hS1 : (fun W : World => Below wr.heap.size wr W) wr.drew := (Below.refl _ _).drew
      go_wp2_with fail
      refine wp_region_held_drew (S := fun W : World => Below wr.heap.size wr W) (by kernel_rfl) hS1 (fun hHeld => ?_)
      clear hHeld
      generalize wr.drew = wzra at *
      refine wpAnyH_take (i := 0) (oi := ⟨some 37, _, _, _, _, _⟩) (v := ?vra1) rfl (by kernel_rfl) (by kernel_rfl) (by kernel_rfl) (fun _ _ _ h => h) (Or.inl ⟨by kernel_rfl, ?hyra1⟩) (by assumption) ?restra1
      case hyra1 => (intro W hSw; (try dsimp only at hSw); go_simp; try with_reducible rfl)
      case' restra1 => try simp only [Act.put, List.setIfInBounds_toArray, List.set_cons_zero, List.set_cons_succ]
      refine wpAnyH_take (i := 1) (oi := ⟨some 38, _, _, _, _, _⟩) (v := ?vra2) rfl (by kernel_rfl) (by kernel_rfl) (by kernel_rfl) (fun _ _ _ h => h) (Or.inl ⟨by kernel_rfl, ?hyra2⟩) (by assumption) ?restra2
      case hyra2 => (intro W hSw; (try dsimp only at hSw); go_simp; try with_reducible rfl)
      case' restra2 => try simp only [Act.put, List.setIfInBounds_toArray, List.set_cons_zero, List.set_cons_succ]
      refine wpAnyH_take (i := 2) (oi := ⟨some 39, _, _, _, _, _⟩) (v := ?vra3) rfl (by kernel_rfl) (by kernel_rfl) (by kernel_rfl) (fun _ _ _ h => h) (Or.inl ⟨by kernel_rfl, ?hyra3⟩) (by assumption) ?restra3
      case hyra3 => (intro W hSw; (try dsimp only at hSw); go_simp; try with_reducible rfl)
      case' restra3 => try simp only [Act.put, List.setIfInBounds_toArray, List.set_cons_zero, List.set_cons_succ]
      refine wpAnyH_take (i := 3) (oi := ⟨some 40, _, _, _, _, _⟩) (v := ?vra4) rfl (by kernel_rfl) (by kernel_rfl) (by kernel_rfl) (fun _ _ _ h => h) (Or.inl ⟨by kernel_rfl, ?hyra4⟩) (by assumption) ?restra4
      case hyra4 => (intro W hSw; (try dsimp only at hSw); go_simp; try with_reducible rfl)
      case' restra4 => try simp only [Act.put, List.setIfInBounds_toArray, List.set_cons_zero, List.set_cons_succ]
      refine wpAnyH_take (i := 4) (oi := ⟨some 41, _, _, _, _, _⟩) (v := ?vra5) rfl (by kernel_rfl) (by kernel_rfl) (by kernel_rfl) (fun _ _ _ h => h) (Or.inl ⟨by kernel_rfl, ?hyra5⟩) (by assumption) ?restra5
      case hyra5 => (intro W hSw; (try dsimp only at hSw); go_simp; try with_reducible rfl)
      case' restra5 => try simp only [Act.put, List.setIfInBounds_toArray, List.set_cons_zero, List.set_cons_succ]
      refine wpAnyH_take (i := 5) (oi := ⟨some 42, _, _, _, _, _⟩) (v := ?vra6) rfl (by kernel_rfl) (by kernel_rfl) (by kernel_rfl) (fun _ _ _ h => h) (Or.inl ⟨by kernel_rfl, ?hyra6⟩) (by assumption) ?restra6
      case hyra6 => (intro W hSw; have gq := HFC.out W hSw; (try dsimp only at hSw); go_simp; try with_reducible rfl)
      case' restra6 => try simp only [Act.put, List.setIfInBounds_toArray, List.set_cons_zero, List.set_cons_succ]
      refine wpAnyH_take (i := 7) (oi := ⟨some 44, _, _, _, _, _⟩) (v := ?vra7) rfl (by kernel_rfl) (by kernel_rfl) (by kernel_rfl) (fun _ _ _ h => h) (Or.inl ⟨by kernel_rfl, ?hyra7⟩) (by assumption) ?restra7
      case hyra7 => (intro W hSw; (try dsimp only at hSw); go_simp; try with_reducible rfl)
      case' restra7 => try simp only [Act.put, List.setIfInBounds_toArray, List.set_cons_zero, List.set_cons_succ]
      refine wpAnyH_take (i := 8) (oi := ⟨some 45, _, _, _, _, _⟩) (v := ?vra8) rfl (by kernel_rfl) (by kernel_rfl) (by kernel_rfl) (fun _ _ _ h => h) (Or.inl ⟨by kernel_rfl, ?hyra8⟩) (by assumption) ?restra8
      case hyra8 => (intro W hSw; (try dsimp only at hSw); go_simp; try with_reducible rfl)
      case' restra8 => try simp only [Act.put, List.setIfInBounds_toArray, List.set_cons_zero, List.set_cons_succ]
      refine wpAnyH_take (i := 9) (oi := ⟨some 46, _, _, _, _, _⟩) (v := ?vra9) rfl (by kernel_rfl) (by kernel_rfl) (by kernel_rfl) (fun _ _ _ h => h) (Or.inl ⟨by kernel_rfl, ?hyra9⟩) (by assumption) ?restra9
      case hyra9 => (intro W hSw; (try dsimp only at hSw); go_simp; try with_reducible rfl)
      case' restra9 => try simp only [Act.put, List.setIfInBounds_toArray, List.set_cons_zero, List.set_cons_succ]
      refine wpAnyH_take (i := 10) (oi := ⟨some 47, _, _, _, _, _⟩) (v := ?vra10) rfl (by kernel_rfl) (by kernel_rfl) (by kernel_rfl) (fun _ _ _ h => h) (Or.inl ⟨by kernel_rfl, ?hyra10⟩) (by assumption) ?restra10
      case hyra10 => (intro W hSw; (try dsimp only at hSw); go_simp; try with_reducible rfl)
      case' restra10 => try simp only [Act.put, List.setIfInBounds_toArray, List.set_cons_zero, List.set_cons_succ]
      refine wpAnyH_take (i := 11) (oi := ⟨some 48, _, _, _, _, _⟩) (v := ?vra11) rfl (by kernel_rfl) (by kernel_rfl) (by kernel_rfl) (fun _ _ _ h => h) (Or.inl ⟨by kernel_rfl, ?hyra11⟩) (by assumption) ?restra11
      case hyra11 => (intro W hSw; (try dsimp only at hSw); go_simp; try with_reducible rfl)
      case' restra11 => try simp only [Act.put, List.setIfInBounds_toArray, List.set_cons_zero, List.set_cons_succ]
      refine wpAnyH_take (i := 12) (oi := ⟨some 49, _, _, _, _, _⟩) (v := ?vra12) rfl (by kernel_rfl) (by kernel_rfl) (by kernel_rfl) (fun _ _ _ h => h) (Or.inl ⟨by kernel_rfl, ?hyra12⟩) (by assumption) ?restra12
      case hyra12 => (intro W hSw; have gq := HFC.out W hSw; (try dsimp only at hSw); go_simp; try with_reducible rfl)
      case' restra12 => try simp only [Act.put, List.setIfInBounds_toArray, List.set_cons_zero, List.set_cons_succ]
      refine wpAnyH_ready (rs := [6]) (by kernel_rfl) (by simp) ?_
      refine AllReadyH.cons (o := ⟨some 43, _, _, _, _, _⟩) rfl (fun K hK => ?_) AllReadyH.nil
      go_simp
      go_at_call 35
      refine (CA.out wzra hS1 y).mono ?_
      rintro e Wra1 ⟨rfl, hbWra1⟩
      have hSWra1 := hS1.trans (hbWra1.mono hS1.size)
      try clear hS1
      clear hbWra1
      go_wp2_with fail
      refine hK.out _ _ hSWra1 (fun hHeld => ?_)
      clear hK hHeld K
      try simp only [Act.put, List.setIfInBounds_toArray, List.set_cons_zero, List.set_cons_succ]
      refine wpAnyH_ready (rs := [13]) (by kernel_rfl) (by simp) ?_
      refine AllReadyH.cons (o := ⟨some 50, _, _, _, _, _⟩) rfl (fun K hK => ?_) AllReadyH.nil
      go_simp
      go_at_call 35
      refine (CB.out Wra1 hSWra1 y).mono ?_
      rintro e Wra2 ⟨rfl, hbWra2⟩
      have hSWra2 := hSWra1.trans (hbWra2.mono hSWra1.size)
      try clear hSWra1
      clear hbWra2
      go_wp2_with fail
      refine hK.out _ _ hSWra2 (fun hHeld => ?_)
      clear hK hHeld K
      try simp only [Act.put, List.setIfInBounds_toArray, List.set_cons_zero, List.set_cons_succ]
      refine wpAnyH_take (i := 14) (oi := ⟨some 13, _, _, _, _, _⟩) (v := ?vra13) rfl (by kernel_rfl) (by kernel_rfl) (by kernel_rfl) (fun _ _ _ h => h) (Or.inl ⟨by kernel_rfl, ?hyra13⟩) (by assumption) ?restra13
      case hyra13 => (intro W hSw; (try dsimp only at hSw); go_simp; try with_reducible rfl)
      case' restra13 => try simp only [Act.put, List.setIfInBounds_toArray, List.set_cons_zero, List.set_cons_succ]
      refine wpAnyH_take (i := 15) (oi := ⟨some 14, _, _, _, _, _⟩) (v := ?vra14) rfl (by kernel_rfl) (by kernel_rfl) (by kernel_rfl) (fun _ _ _ h => h) (Or.inl ⟨by kernel_rfl, ?hyra14⟩) (by assumption) ?restra14
      case hyra14 => (intro W hSw; (try dsimp only at hSw); go_simp; try with_reducible rfl)
      case' restra14 => try simp only [Act.put, List.setIfInBounds_toArray, List.set_cons_zero, List.set_cons_succ]
      refine wpAnyH_done (by kernel_rfl) ?_ _
      have hbw1 := hbw.trans (hSWra2.mono hbw.size)
      have hbx1 := hbx.trans (hSWra2.mono hbx.size)
      clear hbw hbx hSWra2 CA CB HFC
      generalize Wra2 = wr at *
      have hbw := hbw1
      have hbx := hbx1
      clear hbw1 hbx1
      rcases hca : choiceO l a y with _ | i1
      · rcases hcb : choiceO l b y with _ | i2
        · have HN : Hid (lexB l a b (F.drop k) = lexB l a b (F.drop (k + 1))) := Lib.hid (lexB_none hlt (by rw [HY.out, hca, hcb]; rfl))
          simp only [optI, Option.getD_none]
          clear hca hcb
          go_wp2
          go_roundw
          case rel => exact ⟨k + 1, by omega, by go_num, Lib.hid (hlex.out.trans HN.out), hbw, hbx⟩
          case measure => simp [intOf]; omega
        · have HN : Hid (lexB l a b F = false) := Lib.hid (hlex.out.trans (lexB_some hlt (by rw [HY.out, hca, hcb]; rfl)))
          have h2 := (inB_iff.1 (choiceO_in hcb).1).1
          simp only [optI, Option.getD_none, Option.getD_some]
          have e1 : ((-1 : Int) == i2) = false := by rw [beq_eq_false_iff_ne]; omega
          have e2 : decide (i2 < 0) = false := decide_eq_false (by omega)
          clear hca hcb
          go_wp2
          go_ret
          exact RetV.bool (by rw [HE.out, HN.out]) hbw
      · rcases hcb : choiceO l b y with _ | i2
        · have HN : Hid (lexB l a b F = true) := Lib.hid (hlex.out.trans (lexB_some hlt (by rw [HY.out, hca, hcb]; rfl)))
          have h1 := (inB_iff.1 (choiceO_in hca).1).1
          simp only [optI, Option.getD_none, Option.getD_some]
          have e1 : (i1 == (-1 : Int)) = false := by rw [beq_eq_false_iff_ne]; omega
          have e2 : decide (i1 < 0) = false := decide_eq_false (by omega)
          clear hca hcb
          go_wp2
          go_ret
          exact RetV.bool (by rw [HE.out, HN.out]) hbw
        · by_cases he : i1 = i2
          · subst he
            have HN : Hid (lexB l a b (F.drop k) = lexB l a b (F.drop (k + 1))) := Lib.hid (lexB_none hlt (by rw [HY.out, hca, hcb]; show (if i1 = i1 then none else _) = none; rw [if_pos rfl]))
            simp only [optI, Option.getD_some]
            have e1 : (i1 == i1) = true := by simp
            clear hca hcb
            go_wp2
            go_roundw
            case rel => exact ⟨k + 1, by omega, by go_num, Lib.hid (hlex.out.trans HN.out), hbw, hbx⟩
            case measure => simp [intOf]; omega
          · have HRAW : Hid (lexB l a b F = costB l[i1.toNat]! l[i2.toNat]! i1 i2) := Lib.hid (hlex.out.trans (lexB_some hlt (by rw [HY.out, hca, hcb]; show (if i1 = i2 then none else _) = _; rw [if_neg he])))
            have e1 : (i1 == i2) = false := by simp [he]
            obtain ⟨i1, rfl, hi1⟩ := inB_nat (choiceO_in hca).1
            obtain ⟨i2, rfl, hi2⟩ := inB_nat (choiceO_in hcb).1
            obtain ⟨bl, offl, rfl, hbl, HCL⟩ := Rd.rangeCs HR.out (show 0 < l.length by omega)
            obtain ⟨cx, hcx⟩ : ∃ cx, l[i1]!.co = cx := ⟨_, rfl⟩
            obtain ⟨cy, hcy⟩ : ∃ cy, l[i2]!.co = cy := ⟨_, rfl⟩
            have HC1 := Lib.hid (fun (W : World) (hW : Below wr.heap.size wr W) => (by have := HCL W (hbw.trans (hW.mono hbw.size)) i1 hi1 7 _ rfl; rwa [hcx] at this : W.cell? ⟨bl, offl + i1 * 8 + 7, none⟩ = some (.int .i64 cx)))
            have HC2 := Lib.hid (fun (W : World) (hW : Below wr.heap.size wr W) => (by have := HCL W (hbw.trans (hW.mono hbw.size)) i2 hi2 7 _ rfl; rwa [hcy] at this : W.cell? ⟨bl, offl + i2 * 8 + 7, none⟩ = some (.int .i64 cy)))
            have HCX : Hid (l[(i1 : Int).toNat]!.co = cx) := Lib.hid (by simpa using hcx)
            have HCY : Hid (l[(i2 : Int).toNat]!.co = cy) := Lib.hid (by simpa using hcy)
            clear hcx hcy HCL

            simp only [optI, Option.getD_some]
            have e2 : decide ((i1 : Int) < 0) = false := decide_eq_false (by omega)
            have e3 : decide ((i2 : Int) < 0) = false := decide_eq_false (by omega)
            have e4 : (i1 == i2) = false := by rw [beq_eq_false_iff_ne]; intro e; exact he (by rw [e])
            clear hca hcb he
            have hS1 : (fun W : World => Below wr.heap.size wr W) wr.drew := (Below.refl _ _).drew
            by_cases hlt3 : cx < cy
            · as_aux_lemma =>
                have d1 : decide (cx < cy) = true := decide_eq_true hlt3
                have HRES : Hid (lexB l a b F = true) := Lib.hid (HRAW.out.trans (costB_lt (by rw [HCX.out, HCY.out]; exact hlt3)))
                clear hlt3
                go_wp2_with fail
                refine wp_region_held_drew (S := fun W : World => Below wr.heap.size wr W) (by kernel_rfl) hS1 (fun hHeld => ?_)
                clear hHeld
                generalize wr.drew = wzxa at *
                refine wpAnyH_take (i := 0) (oi := ⟨some 62, _, _, _, _, _⟩) (v := ?vxa1) rfl (by kernel_rfl) (by kernel_rfl) (by kernel_rfl) (fun _ _ _ h => h) (Or.inl ⟨by kernel_rfl, ?hyxa1⟩) (by assumption) ?restxa1
                case hyxa1 => (intro W hSw; (try dsimp only at hSw); go_simp; try with_reducible rfl)
                case' restxa1 => try simp only [Act.put, List.setIfInBounds_toArray, List.set_cons_zero, List.set_cons_succ]
                refine wpAnyH_take (i := 1) (oi := ⟨some 63, _, _, _, _, _⟩) (v := ?vxa2) rfl (by kernel_rfl) (by kernel_rfl) (by kernel_rfl) (fun _ _ _ h => h) (Or.inl ⟨by kernel_rfl, ?hyxa2⟩) (by assumption) ?restxa2
                case hyxa2 => (intro W hSw; (try dsimp only at hSw); go_simp; try with_reducible rfl)
                case' restxa2 => try simp only [Act.put, List.setIfInBounds_toArray, List.set_cons_zero, List.set_cons_succ]
                refine wpAnyH_take (i := 2) (oi := ⟨some 64, _, _, _, _, _⟩) (v := ?vxa3) rfl (by kernel_rfl) (by kernel_rfl) (by kernel_rfl) (fun _ _ _ h => h) (Or.inl ⟨by kernel_rfl, ?hyxa3⟩) (by assumption) ?restxa3
                case hyxa3 => (intro W hSw; (try dsimp only at hSw); go_simp; try with_reducible rfl)
                case' restxa3 => try simp only [Act.put, List.setIfInBounds_toArray, List.set_cons_zero, List.set_cons_succ]
                refine wpAnyH_take (i := 3) (oi := ⟨some 65, _, _, _, _, _⟩) (v := ?vxa4) rfl (by kernel_rfl) (by kernel_rfl) (by kernel_rfl) (fun _ _ _ h => h) (Or.inl ⟨by kernel_rfl, ?hyxa4⟩) (by assumption) ?restxa4
                case hyxa4 => (intro W hSw; (try dsimp only at hSw); go_simp; try with_reducible rfl)
                case' restxa4 => try simp only [Act.put, List.setIfInBounds_toArray, List.set_cons_zero, List.set_cons_succ]
                refine wpAnyH_take (i := 4) (oi := ⟨some 66, _, _, _, _, _⟩) (v := ?vxa5) rfl (by kernel_rfl) (by kernel_rfl) (by kernel_rfl) (fun _ _ _ h => h) (Or.inl ⟨by kernel_rfl, ?hyxa5⟩) (by assumption) ?restxa5
                case hyxa5 => (intro W hSw; have gq := HC1.out W hSw; (try dsimp only at hSw); go_simp; try with_reducible rfl)
                case' restxa5 => try simp only [Act.put, List.setIfInBounds_toArray, List.set_cons_zero, List.set_cons_succ]
                refine wpAnyH_take (i := 5) (oi := ⟨some 67, _, _, _, _, _⟩) (v := ?vxa6) rfl (by kernel_rfl) (by kernel_rfl) (by kernel_rfl) (fun _ _ _ h => h) (Or.inl ⟨by kernel_rfl, ?hyxa6⟩) (by assumption) ?restxa6
                case hyxa6 => (intro W hSw; (try dsimp only at hSw); go_simp; try with_reducible rfl)
                case' restxa6 => try simp only [Act.put, List.setIfInBounds_toArray, List.set_cons_zero, List.set_cons_succ]
                refine wpAnyH_take (i := 6) (oi := ⟨some 68, _, _, _, _, _⟩) (v := ?vxa7) rfl (by kernel_rfl) (by kernel_rfl) (by kernel_rfl) (fun _ _ _ h => h) (Or.inl ⟨by kernel_rfl, ?hyxa7⟩) (by assumption) ?restxa7
                case hyxa7 => (intro W hSw; (try dsimp only at hSw); go_simp; try with_reducible rfl)
                case' restxa7 => try simp only [Act.put, List.setIfInBounds_toArray, List.set_cons_zero, List.set_cons_succ]
                refine wpAnyH_take (i := 7) (oi := ⟨some 69, _, _, _, _, _⟩) (v := ?vxa8) rfl (by kernel_rfl) (by kernel_rfl) (by kernel_rfl) (fun _ _ _ h => h) (Or.inl ⟨by kernel_rfl, ?hyxa8⟩) (by assumption) ?restxa8
                case hyxa8 => (intro W hSw; (try dsimp only at hSw); go_simp; try with_reducible rfl)
                case' restxa8 => try simp only [Act.put, List.setIfInBounds_toArray, List.set_cons_zero, List.set_cons_succ]
                refine wpAnyH_take (i := 8) (oi := ⟨some 70, _, _, _, _, _⟩) (v := ?vxa9) rfl (by kernel_rfl) (by kernel_rfl) (by kernel_rfl) (fun _ _ _ h => h) (Or.inl ⟨by kernel_rfl, ?hyxa9⟩) (by assumption) ?restxa9
                case hyxa9 => (intro W hSw; (try dsimp only at hSw); go_simp; try with_reducible rfl)
                case' restxa9 => try simp only [Act.put, List.setIfInBounds_toArray, List.set_cons_zero, List.set_cons_succ]
                refine wpAnyH_take (i := 9) (oi := ⟨some 71, _, _, _, _, _⟩) (v := ?vxa10) rfl (by kernel_rfl) (by kernel_rfl) (by kernel_rfl) (fun _ _ _ h => h) (Or.inl ⟨by kernel_rfl, ?hyxa10⟩) (by assumption) ?restxa10
                case hyxa10 => (intro W hSw; have gq := HC2.out W hSw; (try dsimp only at hSw); go_simp; try with_reducible rfl)
                case' restxa10 => try simp only [Act.put, List.setIfInBounds_toArray, List.set_cons_zero, List.set_cons_succ]
                refine wpAnyH_take (i := 10) (oi := ⟨some 72, _, _, _, _, _⟩) (v := ?vxa11) rfl (by kernel_rfl) (by kernel_rfl) (by kernel_rfl) (fun _ _ _ h => h) (Or.inl ⟨by kernel_rfl, ?hyxa11⟩) (by assumption) ?restxa11
                case hyxa11 => (intro W hSw; (try dsimp only at hSw); go_simp; try with_reducible rfl)
                case' restxa11 => try simp only [Act.put, List.setIfInBounds_toArray, List.set_cons_zero, List.set_cons_succ]
                refine wpAnyH_take (i := 11) (oi := ⟨some 73, _, _, _, _, _⟩) (v := ?vxa12) rfl (by kernel_rfl) (by kernel_rfl) (by kernel_rfl) (fun _ _ _ h => h) (Or.inl ⟨by kernel_rfl, ?hyxa12⟩) (by assumption) ?restxa12
                case hyxa12 => (intro W hSw; (try dsimp only at hSw); go_simp; try with_reducible rfl)
                case' restxa12 => try simp only [Act.put, List.setIfInBounds_toArray, List.set_cons_zero, List.set_cons_succ]
                refine wpAnyH_take (i := 12) (oi := ⟨some 74, _, _, _, _, _⟩) (v := undef) rfl (by kernel_rfl) (by kernel_rfl) (by kernel_rfl) (fun _ _ _ h => h) (Or.inr ⟨by kernel_rfl, rfl⟩) (by assumption) ?restxa13
                case' restxa13 => try simp only [Act.put, List.setIfInBounds_toArray, List.set_cons_zero, List.set_cons_succ]
                refine wpAnyH_take (i := 13) (oi := ⟨some 75, _, _, _, _, _⟩) (v := undef) rfl (by kernel_rfl) (by kernel_rfl) (by kernel_rfl) (fun _ _ _ h => h) (Or.inr ⟨by kernel_rfl, rfl⟩) (by assumption) ?restxa14
                case' restxa14 => try simp only [Act.put, List.setIfInBounds_toArray, List.set_cons_zero, List.set_cons_succ]
                refine wpAnyH_take (i := 14) (oi := ⟨some 76, _, _, _, _, _⟩) (v := undef) rfl (by kernel_rfl) (by kernel_rfl) (by kernel_rfl) (fun _ _ _ h => h) (Or.inr ⟨by kernel_rfl, rfl⟩) (by assumption) ?restxa15
                case' restxa15 => try simp only [Act.put, List.setIfInBounds_toArray, List.set_cons_zero, List.set_cons_succ]
                refine wpAnyH_take (i := 15) (oi := ⟨some 77, _, _, _, _, _⟩) (v := undef) rfl (by kernel_rfl) (by kernel_rfl) (by kernel_rfl) (fun _ _ _ h => h) (Or.inr ⟨by kernel_rfl, rfl⟩) (by assumption) ?restxa16
                case' restxa16 => try simp only [Act.put, List.setIfInBounds_toArray, List.set_cons_zero, List.set_cons_succ]
                refine wpAnyH_take (i := 16) (oi := ⟨some 78, _, _, _, _, _⟩) (v := undef) rfl (by kernel_rfl) (by kernel_rfl) (by kernel_rfl) (fun _ _ _ h => h) (Or.inr ⟨by kernel_rfl, rfl⟩) (by assumption) ?restxa17
                case' restxa17 => try simp only [Act.put, List.setIfInBounds_toArray, List.set_cons_zero, List.set_cons_succ]
                refine wpAnyH_take (i := 17) (oi := ⟨some 79, _, _, _, _, _⟩) (v := undef) rfl (by kernel_rfl) (by kernel_rfl) (by kernel_rfl) (fun _ _ _ h => h) (Or.inr ⟨by kernel_rfl, rfl⟩) (by assumption) ?restxa18
                case' restxa18 => try simp only [Act.put, List.setIfInBounds_toArray, List.set_cons_zero, List.set_cons_succ]
                refine wpAnyH_take (i := 18) (oi := ⟨some 80, _, _, _, _, _⟩) (v := undef) rfl (by kernel_rfl) (by kernel_rfl) (by kernel_rfl) (fun _ _ _ h => h) (Or.inr ⟨by kernel_rfl, rfl⟩) (by assumption) ?restxa19
                case' restxa19 => try simp only [Act.put, List.setIfInBounds_toArray, List.set_cons_zero, List.set_cons_succ]
                refine wpAnyH_take (i := 19) (oi := ⟨some 81, _, _, _, _, _⟩) (v := undef) rfl (by kernel_rfl) (by kernel_rfl) (by kernel_rfl) (fun _ _ _ h => h) (Or.inr ⟨by kernel_rfl, rfl⟩) (by assumption) ?restxa20
                case' restxa20 => try simp only [Act.put, List.setIfInBounds_toArray, List.set_cons_zero, List.set_cons_succ]
                refine wpAnyH_take (i := 20) (oi := ⟨some 82, _, _, _, _, _⟩) (v := undef) rfl (by kernel_rfl) (by kernel_rfl) (by kernel_rfl) (fun _ _ _ h => h) (Or.inr ⟨by kernel_rfl, rfl⟩) (by assumption) ?restxa21
                case' restxa21 => try simp only [Act.put, List.setIfInBounds_toArray, List.set_cons_zero, List.set_cons_succ]
                refine wpAnyH_take (i := 21) (oi := ⟨some 83, _, _, _, _, _⟩) (v := undef) rfl (by kernel_rfl) (by kernel_rfl) (by kernel_rfl) (fun _ _ _ h => h) (Or.inr ⟨by kernel_rfl, rfl⟩) (by assumption) ?restxa22
                case' restxa22 => try simp only [Act.put, List.setIfInBounds_toArray, List.set_cons_zero, List.set_cons_succ]
                refine wpAnyH_take (i := 22) (oi := ⟨some 84, _, _, _, _, _⟩) (v := undef) rfl (by kernel_rfl) (by kernel_rfl) (by kernel_rfl) (fun _ _ _ h => h) (Or.inr ⟨by kernel_rfl, rfl⟩) (by assumption) ?restxa23
                case' restxa23 => try simp only [Act.put, List.setIfInBounds_toArray, List.set_cons_zero, List.set_cons_succ]
                refine wpAnyH_take (i := 23) (oi := ⟨some 85, _, _, _, _, _⟩) (v := undef) rfl (by kernel_rfl) (by kernel_rfl) (by kernel_rfl) (fun _ _ _ h => h) (Or.inr ⟨by kernel_rfl, rfl⟩) (by assumption) ?restxa24
                case' restxa24 => try simp only [Act.put, List.setIfInBounds_toArray, List.set_cons_zero, List.set_cons_succ]
                refine wpAnyH_take (i := 24) (oi := ⟨some 86, _, _, _, _, _⟩) (v := undef) rfl (by kernel_rfl) (by kernel_rfl) (by kernel_rfl) (fun _ _ _ h => h) (Or.inr ⟨by kernel_rfl, rfl⟩) (by assumption) ?restxa25
                case' restxa25 => try simp only [Act.put, List.setIfInBounds_toArray, List.set_cons_zero, List.set_cons_succ]
                refine wpAnyH_take (i := 25) (oi := ⟨some 87, _, _, _, _, _⟩) (v := undef) rfl (by kernel_rfl) (by kernel_rfl) (by kernel_rfl) (fun _ _ _ h => h) (Or.inr ⟨by kernel_rfl, rfl⟩) (by assumption) ?restxa26
                case' restxa26 => try simp only [Act.put, List.setIfInBounds_toArray, List.set_cons_zero, List.set_cons_succ]
                refine wpAnyH_take (i := 26) (oi := ⟨some 88, _, _, _, _, _⟩) (v := undef) rfl (by kernel_rfl) (by kernel_rfl) (by kernel_rfl) (fun _ _ _ h => h) (Or.inr ⟨by kernel_rfl, rfl⟩) (by assumption) ?restxa27
                case' restxa27 => try simp only [Act.put, List.setIfInBounds_toArray, List.set_cons_zero, List.set_cons_succ]
                refine wpAnyH_take (i := 27) (oi := ⟨some 89, _, _, _, _, _⟩) (v := undef) rfl (by kernel_rfl) (by kernel_rfl) (by kernel_rfl) (fun _ _ _ h => h) (Or.inr ⟨by kernel_rfl, rfl⟩) (by assumption) ?restxa28
                case' restxa28 => try simp only [Act.put, List.setIfInBounds_toArray, List.set_cons_zero, List.set_cons_succ]
                refine wpAnyH_take (i := 28) (oi := ⟨some 90, _, _, _, _, _⟩) (v := ?vxa29) rfl (by kernel_rfl) (by kernel_rfl) (by kernel_rfl) (fun _ _ _ h => h) (Or.inl ⟨by kernel_rfl, ?hyxa29⟩) (by assumption) ?restxa29
                case hyxa29 => (intro W hSw; (try dsimp only at hSw); go_simp; try with_reducible rfl)
                case' restxa29 => try simp only [Act.put, List.setIfInBounds_toArray, List.set_cons_zero, List.set_cons_succ]
                refine wpAnyH_take (i := 29) (oi := ⟨some 8, _, _, _, _, _⟩) (v := ?vxa30) rfl (by kernel_rfl) (by kernel_rfl) (by kernel_rfl) (fun _ _ _ h => h) (Or.inl ⟨by kernel_rfl, ?hyxa30⟩) (by assumption) ?restxa30
                case hyxa30 => (intro W hSw; (try dsimp only at hSw); go_simp; try with_reducible rfl)
                case' restxa30 => try simp only [Act.put, List.setIfInBounds_toArray, List.set_cons_zero, List.set_cons_succ]
                refine wpAnyH_done (by kernel_rfl) ?_ _
                go_wp2
                go_ret
                exact RetV.bool (by rw [HE.out, HRES.out]; first | done | rfl | exact decide_eq_decide.2 (by omega)) (hbw.trans (hS1.mono hbw.size))
            · by_cases heq3 : cx = cy
              · as_aux_lemma =>
                  have d1 : decide (cx < cy) = false := decide_eq_false hlt3
                  have d2 : (cx == cy) = true := by simp [heq3]
                  have HRES : Hid (lexB l a b F = decide ((i1 : Int) < (i2 : Int))) := Lib.hid (HRAW.out.trans (costB_eq (by rw [HCX.out, HCY.out]; exact heq3)))
                  clear hlt3 heq3
                  go_wp2_with fail
                  refine wp_region_held_drew (S := fun W : World => Below wr.heap.size wr W) (by kernel_rfl) hS1 (fun hHeld => ?_)
                  clear hHeld
                  generalize wr.drew = wzxb at *
                  refine wpAnyH_take (i := 0) (oi := ⟨some 62, _, _, _, _, _⟩) (v := ?vxb1) rfl (by kernel_rfl) (by kernel_rfl) (by kernel_rfl) (fun _ _ _ h => h) (Or.inl ⟨by kernel_rfl, ?hyxb1⟩) (by assumption) ?restxb1
                  case hyxb1 => (intro W hSw; (try dsimp only at hSw); go_simp; try with_reducible rfl)
                  case' restxb1 => try simp only [Act.put, List.setIfInBounds_toArray, List.set_cons_zero, List.set_cons_succ]
                  refine wpAnyH_take (i := 1) (oi := ⟨some 63, _, _, _, _, _⟩) (v := ?vxb2) rfl (by kernel_rfl) (by kernel_rfl) (by kernel_rfl) (fun _ _ _ h => h) (Or.inl ⟨by kernel_rfl, ?hyxb2⟩) (by assumption) ?restxb2
                  case hyxb2 => (intro W hSw; (try dsimp only at hSw); go_simp; try with_reducible rfl)
                  case' restxb2 => try simp only [Act.put, List.setIfInBounds_toArray, List.set_cons_zero, List.set_cons_succ]
                  refine wpAnyH_take (i := 2) (oi := ⟨some 64, _, _, _, _, _⟩) (v := ?vxb3) rfl (by kernel_rfl) (by kernel_rfl) (by kernel_rfl) (fun _ _ _ h => h) (Or.inl ⟨by kernel_rfl, ?hyxb3⟩) (by assumption) ?restxb3
                  case hyxb3 => (intro W hSw; (try dsimp only at hSw); go_simp; try with_reducible rfl)
                  case' restxb3 => try simp only [Act.put, List.setIfInBounds_toArray, List.set_cons_zero, List.set_cons_succ]
                  refine wpAnyH_take (i := 3) (oi := ⟨some 65, _, _, _, _, _⟩) (v := ?vxb4) rfl (by kernel_rfl) (by kernel_rfl) (by kernel_rfl) (fun _ _ _ h => h) (Or.inl ⟨by kernel_rfl, ?hyxb4⟩) (by assumption) ?restxb4
                  case hyxb4 => (intro W hSw; (try dsimp only at hSw); go_simp; try with_reducible rfl)
                  case' restxb4 => try simp only [Act.put, List.setIfInBounds_toArray, List.set_cons_zero, List.set_cons_succ]
                  refine wpAnyH_take (i := 4) (oi := ⟨some 66, _, _, _, _, _⟩) (v := ?vxb5) rfl (by kernel_rfl) (by kernel_rfl) (by kernel_rfl) (fun _ _ _ h => h) (Or.inl ⟨by kernel_rfl, ?hyxb5⟩) (by assumption) ?restxb5
                  case hyxb5 => (intro W hSw; have gq := HC1.out W hSw; (try dsimp only at hSw); go_simp; try with_reducible rfl)
                  case' restxb5 => try simp only [Act.put, List.setIfInBounds_toArray, List.set_cons_zero, List.set_cons_succ]
                  refine wpAnyH_take (i := 5) (oi := ⟨some 67, _, _, _, _, _⟩) (v := ?vxb6) rfl (by kernel_rfl) (by kernel_rfl) (by kernel_rfl) (fun _ _ _ h => h) (Or.inl ⟨by kernel_rfl, ?hyxb6⟩) (by assumption) ?restxb6
                  case hyxb6 => (intro W hSw; (try dsimp only at hSw); go_simp; try with_reducible rfl)
                  case' restxb6 => try simp only [Act.put, List.setIfInBounds_toArray, List.set_cons_zero, List.set_cons_succ]
                  refine wpAnyH_take (i := 6) (oi := ⟨some 68, _, _, _, _, _⟩) (v := ?vxb7) rfl (by kernel_rfl) (by kernel_rfl) (by kernel_rfl) (fun _ _ _ h => h) (Or.inl ⟨by kernel_rfl, ?hyxb7⟩) (by assumption) ?restxb7
                  case hyxb7 => (intro W hSw; (try dsimp only at hSw); go_simp; try with_reducible rfl)
                  case' restxb7 => try simp only [Act.put, List.setIfInBounds_toArray, List.set_cons_zero, List.set_cons_succ]
                  refine wpAnyH_take (i := 7) (oi := ⟨some 69, _, _, _, _, _⟩) (v := ?vxb8) rfl (by kernel_rfl) (by kernel_rfl) (by kernel_rfl) (fun _ _ _ h => h) (Or.inl ⟨by kernel_rfl, ?hyxb8⟩) (by assumption) ?restxb8
                  case hyxb8 => (intro W hSw; (try dsimp only at hSw); go_simp; try with_reducible rfl)
                  case' restxb8 => try simp only [Act.put, List.setIfInBounds_toArray, List.set_cons_zero, List.set_cons_succ]
                  refine wpAnyH_take (i := 8) (oi := ⟨some 70, _, _, _, _, _⟩) (v := ?vxb9) rfl (by kernel_rfl) (by kernel_rfl) (by kernel_rfl) (fun _ _ _ h => h) (Or.inl ⟨by kernel_rfl, ?hyxb9⟩) (by assumption) ?restxb9
                  case hyxb9 => (intro W hSw; (try dsimp only at hSw); go_simp; try with_reducible rfl)
                  case' restxb9 => try simp only [Act.put, List.setIfInBounds_toArray, List.set_cons_zero, List.set_cons_succ]
                  refine wpAnyH_take (i := 9) (oi := ⟨some 71, _, _, _, _, _⟩) (v := ?vxb10) rfl (by kernel_rfl) (by kernel_rfl) (by kernel_rfl) (fun _ _ _ h => h) (Or.inl ⟨by kernel_rfl, ?hyxb10⟩) (by assumption) ?restxb10
                  case hyxb10 => (intro W hSw; have gq := HC2.out W hSw; (try dsimp only at hSw); go_simp; try with_reducible rfl)
                  case' restxb10 => try simp only [Act.put, List.setIfInBounds_toArray, List.set_cons_zero, List.set_cons_succ]
                  refine wpAnyH_take (i := 10) (oi := ⟨some 72, _, _, _, _, _⟩) (v := ?vxb11) rfl (by kernel_rfl) (by kernel_rfl) (by kernel_rfl) (fun _ _ _ h => h) (Or.inl ⟨by kernel_rfl, ?hyxb11⟩) (by assumption) ?restxb11
                  case hyxb11 => (intro W hSw; (try dsimp only at hSw); go_simp; try with_reducible rfl)
                  case' restxb11 => try simp only [Act.put, List.setIfInBounds_toArray, List.set_cons_zero, List.set_cons_succ]
                  refine wpAnyH_take (i := 11) (oi := ⟨some 73, _, _, _, _, _⟩) (v := ?vxb12) rfl (by kernel_rfl) (by kernel_rfl) (by kernel_rfl) (fun _ _ _ h => h) (Or.inl ⟨by kernel_rfl, ?hyxb12⟩) (by assumption) ?restxb12
                  case hyxb12 => (intro W hSw; (try dsimp only at hSw); go_simp; try with_reducible rfl)
                  case' restxb12 => try simp only [Act.put, List.setIfInBounds_toArray, List.set_cons_zero, List.set_cons_succ]
                  refine wpAnyH_take (i := 12) (oi := ⟨some 74, _, _, _, _, _⟩) (v := ?vxb13) rfl (by kernel_rfl) (by kernel_rfl) (by kernel_rfl) (fun _ _ _ h => h) (Or.inl ⟨by kernel_rfl, ?hyxb13⟩) (by assumption) ?restxb13
                  case hyxb13 => (intro W hSw; (try dsimp only at hSw); go_simp; try with_reducible rfl)
                  case' restxb13 => try simp only [Act.put, List.setIfInBounds_toArray, List.set_cons_zero, List.set_cons_succ]
                  refine wpAnyH_take (i := 13) (oi := ⟨some 75, _, _, _, _, _⟩) (v := ?vxb14) rfl (by kernel_rfl) (by kernel_rfl) (by kernel_rfl) (fun _ _ _ h => h) (Or.inl ⟨by kernel_rfl, ?hyxb14⟩) (by assumption) ?restxb14
                  case hyxb14 => (intro W hSw; (try dsimp only at hSw); go_simp; try with_reducible rfl)
                  case' restxb14 => try simp only [Act.put, List.setIfInBounds_toArray, List.set_cons_zero, List.set_cons_succ]
                  refine wpAnyH_take (i := 14) (oi := ⟨some 76, _, _, _, _, _⟩) (v := ?vxb15) rfl (by kernel_rfl) (by kernel_rfl) (by kernel_rfl) (fun _ _ _ h => h) (Or.inl ⟨by kernel_rfl, ?hyxb15⟩) (by assumption) ?restxb15
                  case hyxb15 => (intro W hSw; (try dsimp only at hSw); go_simp; try with_reducible rfl)
                  case' restxb15 => try simp only [Act.put, List.setIfInBounds_toArray, List.set_cons_zero, List.set_cons_succ]
                  refine wpAnyH_take (i := 15) (oi := ⟨some 77, _, _, _, _, _⟩) (v := ?vxb16) rfl (by kernel_rfl) (by kernel_rfl) (by kernel_rfl) (fun _ _ _ h => h) (Or.inl ⟨by kernel_rfl, ?hyxb16⟩) (by assumption) ?restxb16
                  case hyxb16 => (intro W hSw; (try dsimp only at hSw); go_simp; try with_reducible rfl)
                  case' restxb16 => try simp only [Act.put, List.setIfInBounds_toArray, List.set_cons_zero, List.set_cons_succ]
                  refine wpAnyH_take (i := 16) (oi := ⟨some 78, _, _, _, _, _⟩) (v := ?vxb17) rfl (by kernel_rfl) (by kernel_rfl) (by kernel_rfl) (fun _ _ _ h => h) (Or.inl ⟨by kernel_rfl, ?hyxb17⟩) (by assumption) ?restxb17
                  case hyxb17 => (intro W hSw; have gq := HC1.out W hSw; (try dsimp only at hSw); go_simp; try with_reducible rfl)
                  case' restxb17 => try simp only [Act.put, List.setIfInBounds_toArray, List.set_cons_zero, List.set_cons_succ]
                  refine wpAnyH_take (i := 17) (oi := ⟨some 79, _, _, _, _, _⟩) (v := ?vxb18) rfl (by kernel_rfl) (by kernel_rfl) (by kernel_rfl) (fun _ _ _ h => h) (Or.inl ⟨by kernel_rfl, ?hyxb18⟩) (by assumption) ?restxb18
                  case hyxb18 => (intro W hSw; (try dsimp only at hSw); go_simp; try with_reducible rfl)
                  case' restxb18 => try simp only [Act.put, List.setIfInBounds_toArray, List.set_cons_zero, List.set_cons_succ]
                  refine wpAnyH_take (i := 18) (oi := ⟨some 80, _, _, _, _, _⟩) (v := ?vxb19) rfl (by kernel_rfl) (by kernel_rfl) (by kernel_rfl) (fun _ _ _ h => h) (Or.inl ⟨by kernel_rfl, ?hyxb19⟩) (by assumption) ?restxb19
                  case hyxb19 => (intro W hSw; (try dsimp only at hSw); go_simp; try with_reducible rfl)
                  case' restxb19 => try simp only [Act.put, List.setIfInBounds_toArray, List.set_cons_zero, List.set_cons_succ]
                  refine wpAnyH_take (i := 19) (oi := ⟨some 81, _, _, _, _, _⟩) (v := ?vxb20) rfl (by kernel_rfl) (by kernel_rfl) (by kernel_rfl) (fun _ _ _ h => h) (Or.inl ⟨by kernel_rfl, ?hyxb20⟩) (by assumption) ?restxb20
                  case hyxb20 => (intro W hSw; (try dsimp only at hSw); go_simp; try with_reducible rfl)
                  case' restxb20 => try simp only [Act.put, List.setIfInBounds_toArray, List.set_cons_zero, List.set_cons_succ]
                  refine wpAnyH_take (i := 20) (oi := ⟨some 82, _, _, _, _, _⟩) (v := ?vxb21) rfl (by kernel_rfl) (by kernel_rfl) (by kernel_rfl) (fun _ _ _ h => h) (Or.inl ⟨by kernel_rfl, ?hyxb21⟩) (by assumption) ?restxb21
                  case hyxb21 => (intro W hSw; (try dsimp only at hSw); go_simp; try with_reducible rfl)
                  case' restxb21 => try simp only [Act.put, List.setIfInBounds_toArray, List.set_cons_zero, List.set_cons_succ]
                  refine wpAnyH_take (i := 21) (oi := ⟨some 83, _, _, _, _, _⟩) (v := ?vxb22) rfl (by kernel_rfl) (by kernel_rfl) (by kernel_rfl) (fun _ _ _ h => h) (Or.inl ⟨by kernel_rfl, ?hyxb22⟩) (by assumption) ?restxb22
                  case hyxb22 => (intro W hSw; have gq := HC2.out W hSw; (try dsimp only at hSw); go_simp; try with_reducible rfl)
                  case' restxb22 => try simp only [Act.put, List.setIfInBounds_toArray, List.set_cons_zero, List.set_cons_succ]
                  refine wpAnyH_take (i := 22) (oi := ⟨some 84, _, _, _, _, _⟩) (v := ?vxb23) rfl (by kernel_rfl) (by kernel_rfl) (by kernel_rfl) (fun _ _ _ h => h) (Or.inl ⟨by kernel_rfl, ?hyxb23⟩) (by assumption) ?restxb23
                  case hyxb23 => (intro W hSw; (try dsimp only at hSw); go_simp; try with_reducible rfl)
                  case' restxb23 => try simp only [Act.put, List.setIfInBounds_toArray, List.set_cons_zero, List.set_cons_succ]
                  refine wpAnyH_take (i := 23) (oi := ⟨some 85, _, _, _, _, _⟩) (v := ?vxb24) rfl (by kernel_rfl) (by kernel_rfl) (by kernel_rfl) (fun _ _ _ h => h) (Or.inl ⟨by kernel_rfl, ?hyxb24⟩) (by assumption) ?restxb24
                  case hyxb24 => (intro W hSw; (try dsimp only at hSw); go_simp; try with_reducible rfl)
                  case' restxb24 => try simp only [Act.put, List.setIfInBounds_toArray, List.set_cons_zero, List.set_cons_succ]
                  refine wpAnyH_take (i := 24) (oi := ⟨some 86, _, _, _, _, _⟩) (v := ?vxb25) rfl (by kernel_rfl) (by kernel_rfl) (by kernel_rfl) (fun _ _ _ h => h) (Or.inl ⟨by kernel_rfl, ?hyxb25⟩) (by assumption) ?restxb25
                  case hyxb25 => (intro W hSw; (try dsimp only at hSw); go_simp; try with_reducible rfl)
                  case' restxb25 => try simp only [Act.put, List.setIfInBounds_toArray, List.set_cons_zero, List.set_cons_succ]
                  refine wpAnyH_take (i := 25) (oi := ⟨some 87, _, _, _, _, _⟩) (v := ?vxb26) rfl (by kernel_rfl) (by kernel_rfl) (by kernel_rfl) (fun _ _ _ h => h) (Or.inl ⟨by kernel_rfl, ?hyxb26⟩) (by assumption) ?restxb26
                  case hyxb26 => (intro W hSw; (try dsimp only at hSw); go_simp; try with_reducible rfl)
                  case' restxb26 => try simp only [Act.put, List.setIfInBounds_toArray, List.set_cons_zero, List.set_cons_succ]
                  refine wpAnyH_take (i := 26) (oi := ⟨some 88, _, _, _, _, _⟩) (v := ?vxb27) rfl (by kernel_rfl) (by kernel_rfl) (by kernel_rfl) (fun _ _ _ h => h) (Or.inl ⟨by kernel_rfl, ?hyxb27⟩) (by assumption) ?restxb27
                  case hyxb27 => (intro W hSw; (try dsimp only at hSw); go_simp; try with_reducible rfl)
                  case' restxb27 => try simp only [Act.put, List.setIfInBounds_toArray, List.set_cons_zero, List.set_cons_succ]
                  refine wpAnyH_take (i := 27) (oi := ⟨some 89, _, _, _, _, _⟩) (v := ?vxb28) rfl (by kernel_rfl) (by kernel_rfl) (by kernel_rfl) (fun _ _ _ h => h) (Or.inl ⟨by kernel_rfl, ?hyxb28⟩) (by assumption) ?restxb28
                  case hyxb28 => (intro W hSw; (try dsimp only at hSw); go_simp; try with_reducible rfl)
                  case' restxb28 => try simp only [Act.put, List.setIfInBounds_toArray, List.set_cons_zero, List.set_cons_succ]
                  refine wpAnyH_take (i := 28) (oi := ⟨some 90, _, _, _, _, _⟩) (v := ?vxb29) rfl (by kernel_rfl) (by kernel_rfl) (by kernel_rfl) (fun _ _ _ h => h) (Or.inl ⟨by kernel_rfl, ?hyxb29⟩) (by assumption) ?restxb29
                  case hyxb29 => (intro W hSw; (try dsimp only at hSw); go_simp; try with_reducible rfl)
                  case' restxb29 => try simp only [Act.put, List.setIfInBounds_toArray, List.set_cons_zero, List.set_cons_succ]
                  refine wpAnyH_take (i := 29) (oi := ⟨some 8, _, _, _, _, _⟩) (v := ?vxb30) rfl (by kernel_rfl) (by kernel_rfl) (by kernel_rfl) (fun _ _ _ h => h) (Or.inl ⟨by kernel_rfl, ?hyxb30⟩) (by assumption) ?restxb30
                  case hyxb30 => (intro W hSw; (try dsimp only at hSw); go_simp; try with_reducible rfl)
                  case' restxb30 => try simp only [Act.put, List.setIfInBounds_toArray, List.set_cons_zero, List.set_cons_succ]
                  refine wpAnyH_done (by kernel_rfl) ?_ _
                  go_wp2
                  go_ret
                  exact RetV.bool (by rw [HE.out, HRES.out]; first | done | rfl | exact decide_eq_decide.2 (by omega)) (hbw.trans (hS1.mono hbw.size))
              · as_aux_lemma =>
                  have d1 : decide (cx < cy) = false := decide_eq_false hlt3
                  have d2 : (cx == cy) = false := by simp [heq3]
                  have HRES : Hid (lexB l a b F = false) := Lib.hid (HRAW.out.trans (costB_gt (by rw [HCX.out, HCY.out]; omega)))
                  clear hlt3 heq3
                  go_wp2_with fail
                  refine wp_region_held_drew (S := fun W : World => Below wr.heap.size wr W) (by kernel_rfl) hS1 (fun hHeld => ?_)
                  clear hHeld
                  generalize wr.drew = wzxc at *
                  refine wpAnyH_take (i := 0) (oi := ⟨some 62, _, _, _, _, _⟩) (v := ?vxc1) rfl (by kernel_rfl) (by kernel_rfl) (by kernel_rfl) (fun _ _ _ h => h) (Or.inl ⟨by kernel_rfl, ?hyxc1⟩) (by assumption) ?restxc1
                  case hyxc1 => (intro W hSw; (try dsimp only at hSw); go_simp; try with_reducible rfl)
                  case' restxc1 => try simp only [Act.put, List.setIfInBounds_toArray, List.set_cons_zero, List.set_cons_succ]
                  refine wpAnyH_take (i := 1) (oi := ⟨some 63, _, _, _, _, _⟩) (v := ?vxc2) rfl (by kernel_rfl) (by kernel_rfl) (by kernel_rfl) (fun _ _ _ h => h) (Or.inl ⟨by kernel_rfl, ?hyxc2⟩) (by assumption) ?restxc2
                  case hyxc2 => (intro W hSw; (try dsimp only at hSw); go_simp; try with_reducible rfl)
                  case' restxc2 => try simp only [Act.put, List.setIfInBounds_toArray, List.set_cons_zero, List.set_cons_succ]
                  refine wpAnyH_take (i := 2) (oi := ⟨some 64, _, _, _, _, _⟩) (v := ?vxc3) rfl (by kernel_rfl) (by kernel_rfl) (by kernel_rfl) (fun _ _ _ h => h) (Or.inl ⟨by kernel_rfl, ?hyxc3⟩) (by assumption) ?restxc3
                  case hyxc3 => (intro W hSw; (try dsimp only at hSw); go_simp; try with_reducible rfl)
                  case' restxc3 => try simp only [Act.put, List.setIfInBounds_toArray, List.set_cons_zero, List.set_cons_succ]
                  refine wpAnyH_take (i := 3) (oi := ⟨some 65, _, _, _, _, _⟩) (v := ?vxc4) rfl (by kernel_rfl) (by kernel_rfl) (by kernel_rfl) (fun _ _ _ h => h) (Or.inl ⟨by kernel_rfl, ?hyxc4⟩) (by assumption) ?restxc4
                  case hyxc4 => (intro W hSw; (try dsimp only at hSw); go_simp; try with_reducible rfl)
                  case' restxc4 => try simp only [Act.put, List.setIfInBounds_toArray, List.set_cons_zero, List.set_cons_succ]
                  refine wpAnyH_take (i := 4) (oi := ⟨some 66, _, _, _, _, _⟩) (v := ?vxc5) rfl (by kernel_rfl) (by kernel_rfl) (by kernel_rfl) (fun _ _ _ h => h) (Or.inl ⟨by kernel_rfl, ?hyxc5⟩) (by assumption) ?restxc5
                  case hyxc5 => (intro W hSw; have gq := HC1.out W hSw; (try dsimp only at hSw); go_simp; try with_reducible rfl)
                  case' restxc5 => try simp only [Act.put, List.setIfInBounds_toArray, List.set_cons_zero, List.set_cons_succ]
                  refine wpAnyH_take (i := 5) (oi := ⟨some 67, _, _, _, _, _⟩) (v := ?vxc6) rfl (by kernel_rfl) (by kernel_rfl) (by kernel_rfl) (fun _ _ _ h => h) (Or.inl ⟨by kernel_rfl, ?hyxc6⟩) (by assumption) ?restxc6
                  case hyxc6 => (intro W hSw; (try dsimp only at hSw); go_simp; try with_reducible rfl)
                  case' restxc6 => try simp only [Act.put, List.setIfInBounds_toArray, List.set_cons_zero, List.set_cons_succ]
                  refine wpAnyH_take (i := 6) (oi := ⟨some 68, _, _, _, _, _⟩) (v := ?vxc7) rfl (by kernel_rfl) (by kernel_rfl) (by kernel_rfl) (fun _ _ _ h => h) (Or.inl ⟨by kernel_rfl, ?hyxc7⟩) (by assumption) ?restxc7
                  case hyxc7 => (intro W hSw; (try dsimp only at hSw); go_simp; try with_reducible rfl)
                  case' restxc7 => try simp only [Act.put, List.setIfInBounds_toArray, List.set_cons_zero, List.set_cons_succ]
                  refine wpAnyH_take (i := 7) (oi := ⟨some 69, _, _, _, _, _⟩) (v := ?vxc8) rfl (by kernel_rfl) (by kernel_rfl) (by kernel_rfl) (fun _ _ _ h => h) (Or.inl ⟨by kernel_rfl, ?hyxc8⟩) (by assumption) ?restxc8
                  case hyxc8 => (intro W hSw; (try dsimp only at hSw); go_simp; try with_reducible rfl)
                  case' restxc8 => try simp only [Act.put, List.setIfInBounds_toArray, List.set_cons_zero, List.set_cons_succ]
                  refine wpAnyH_take (i := 8) (oi := ⟨some 70, _, _, _, _, _⟩) (v := ?vxc9) rfl (by kernel_rfl) (by kernel_rfl) (by kernel_rfl) (fun _ _ _ h => h) (Or.inl ⟨by kernel_rfl, ?hyxc9⟩) (by assumption) ?restxc9
                  case hyxc9 => (intro W hSw; (try dsimp only at hSw); go_simp; try with_reducible rfl)
                  case' restxc9 => try simp only [Act.put, List.setIfInBounds_toArray, List.set_cons_zero, List.set_cons_succ]
                  refine wpAnyH_take (i := 9) (oi := ⟨some 71, _, _, _, _, _⟩) (v := ?vxc10) rfl (by kernel_rfl) (by kernel_rfl) (by kernel_rfl) (fun _ _ _ h => h) (Or.inl ⟨by kernel_rfl, ?hyxc10⟩) (by assumption) ?restxc10
                  case hyxc10 => (intro W hSw; have gq := HC2.out W hSw; (try dsimp only at hSw); go_simp; try with_reducible rfl)
                  case' restxc10 => try simp only [Act.put, List.setIfInBounds_toArray, List.set_cons_zero, List.set_cons_succ]
                  refine wpAnyH_take (i := 10) (oi := ⟨some 72, _, _, _, _, _⟩) (v := ?vxc11) rfl (by kernel_rfl) (by kernel_rfl) (by kernel_rfl) (fun _ _ _ h => h) (Or.inl ⟨by kernel_rfl, ?hyxc11⟩) (by assumption) ?restxc11
                  case hyxc11 => (intro W hSw; (try dsimp only at hSw); go_simp; try with_reducible rfl)
                  case' restxc11 => try simp only [Act.put, List.setIfInBounds_toArray, List.set_cons_zero, List.set_cons_succ]
                  refine wpAnyH_take (i := 11) (oi := ⟨some 73, _, _, _, _, _⟩) (v := ?vxc12) rfl (by kernel_rfl) (by kernel_rfl) (by kernel_rfl) (fun _ _ _ h => h) (Or.inl ⟨by kernel_rfl, ?hyxc12⟩) (by assumption) ?restxc12
                  case hyxc12 => (intro W hSw; (try dsimp only at hSw); go_simp; try with_reducible rfl)
                  case' restxc12 => try simp only [Act.put, List.setIfInBounds_toArray, List.set_cons_zero, List.set_cons_succ]
                  refine wpAnyH_take (i := 12) (oi := ⟨some 74, _, _, _, _, _⟩) (v := ?vxc13) rfl (by kernel_rfl) (by kernel_rfl) (by kernel_rfl) (fun _ _ _ h => h) (Or.inl ⟨by kernel_rfl, ?hyxc13⟩) (by assumption) ?restxc13
                  case hyxc13 => (intro W hSw; (try dsimp only at hSw); go_simp; try with_reducible rfl)
                  case' restxc13 => try simp only [Act.put, List.setIfInBounds_toArray, List.set_cons_zero, List.set_cons_succ]
                  refine wpAnyH_take (i := 13) (oi := ⟨some 75, _, _, _, _, _⟩) (v := ?vxc14) rfl (by kernel_rfl) (by kernel_rfl) (by kernel_rfl) (fun _ _ _ h => h) (Or.inl ⟨by kernel_rfl, ?hyxc14⟩) (by assumption) ?restxc14
                  case hyxc14 => (intro W hSw; (try dsimp only at hSw); go_simp; try with_reducible rfl)
                  case' restxc14 => try simp only [Act.put, List.setIfInBounds_toArray, List.set_cons_zero, List.set_cons_succ]
                  refine wpAnyH_take (i := 14) (oi := ⟨some 76, _, _, _, _, _⟩) (v := ?vxc15) rfl (by kernel_rfl) (by kernel_rfl) (by kernel_rfl) (fun _ _ _ h => h) (Or.inl ⟨by kernel_rfl, ?hyxc15⟩) (by assumption) ?restxc15
                  case hyxc15 => (intro W hSw; (try dsimp only at hSw); go_simp; try with_reducible rfl)
                  case' restxc15 => try simp only [Act.put, List.setIfInBounds_toArray, List.set_cons_zero, List.set_cons_succ]
                  refine wpAnyH_take (i := 15) (oi := ⟨some 77, _, _, _, _, _⟩) (v := ?vxc16) rfl (by kernel_rfl) (by kernel_rfl) (by kernel_rfl) (fun _ _ _ h => h) (Or.inl ⟨by kernel_rfl, ?hyxc16⟩) (by assumption) ?restxc16
                  case hyxc16 => (intro W hSw; (try dsimp only at hSw); go_simp; try with_reducible rfl)
                  case' restxc16 => try simp only [Act.put, List.setIfInBounds_toArray, List.set_cons_zero, List.set_cons_succ]
                  refine wpAnyH_take (i := 16) (oi := ⟨some 78, _, _, _, _, _⟩) (v := ?vxc17) rfl (by kernel_rfl) (by kernel_rfl) (by kernel_rfl) (fun _ _ _ h => h) (Or.inl ⟨by kernel_rfl, ?hyxc17⟩) (by assumption) ?restxc17
                  case hyxc17 => (intro W hSw; have gq := HC1.out W hSw; (try dsimp only at hSw); go_simp; try with_reducible rfl)
                  case' restxc17 => try simp only [Act.put, List.setIfInBounds_toArray, List.set_cons_zero, List.set_cons_succ]
                  refine wpAnyH_take (i := 17) (oi := ⟨some 79, _, _, _, _, _⟩) (v := ?vxc18) rfl (by kernel_rfl) (by kernel_rfl) (by kernel_rfl) (fun _ _ _ h => h) (Or.inl ⟨by kernel_rfl, ?hyxc18⟩) (by assumption) ?restxc18
                  case hyxc18 => (intro W hSw; (try dsimp only at hSw); go_simp; try with_reducible rfl)
                  case' restxc18 => try simp only [Act.put, List.setIfInBounds_toArray, List.set_cons_zero, List.set_cons_succ]
                  refine wpAnyH_take (i := 18) (oi := ⟨some 80, _, _, _, _, _⟩) (v := ?vxc19) rfl (by kernel_rfl) (by kernel_rfl) (by kernel_rfl) (fun _ _ _ h => h) (Or.inl ⟨by kernel_rfl, ?hyxc19⟩) (by assumption) ?restxc19
                  case hyxc19 => (intro W hSw; (try dsimp only at hSw); go_simp; try with_reducible rfl)
                  case' restxc19 => try simp only [Act.put, List.setIfInBounds_toArray, List.set_cons_zero, List.set_cons_succ]
                  refine wpAnyH_take (i := 19) (oi := ⟨some 81, _, _, _, _, _⟩) (v := ?vxc20) rfl (by kernel_rfl) (by kernel_rfl) (by kernel_rfl) (fun _ _ _ h => h) (Or.inl ⟨by kernel_rfl, ?hyxc20⟩) (by assumption) ?restxc20
                  case hyxc20 => (intro W hSw; (try dsimp only at hSw); go_simp; try with_reducible rfl)
                  case' restxc20 => try simp only [Act.put, List.setIfInBounds_toArray, List.set_cons_zero, List.set_cons_succ]
                  refine wpAnyH_take (i := 20) (oi := ⟨some 82, _, _, _, _, _⟩) (v := ?vxc21) rfl (by kernel_rfl) (by kernel_rfl) (by kernel_rfl) (fun _ _ _ h => h) (Or.inl ⟨by kernel_rfl, ?hyxc21⟩) (by assumption) ?restxc21
                  case hyxc21 => (intro W hSw; (try dsimp only at hSw); go_simp; try with_reducible rfl)
                  case' restxc21 => try simp only [Act.put, List.setIfInBounds_toArray, List.set_cons_zero, List.set_cons_succ]
                  refine wpAnyH_take (i := 21) (oi := ⟨some 83, _, _, _, _, _⟩) (v := ?vxc22) rfl (by kernel_rfl) (by kernel_rfl) (by kernel_rfl) (fun _ _ _ h => h) (Or.inl ⟨by kernel_rfl, ?hyxc22⟩) (by assumption) ?restxc22
                  case hyxc22 => (intro W hSw; have gq := HC2.out W hSw; (try dsimp only at hSw); go_simp; try with_reducible rfl)
                  case' restxc22 => try simp only [Act.put, List.setIfInBounds_toArray, List.set_cons_zero, List.set_cons_succ]
                  refine wpAnyH_take (i := 22) (oi := ⟨some 84, _, _, _, _, _⟩) (v := ?vxc23) rfl (by kernel_rfl) (by kernel_rfl) (by kernel_rfl) (fun _ _ _ h => h) (Or.inl ⟨by kernel_rfl, ?hyxc23⟩) (by assumption) ?restxc23
                  case hyxc23 => (intro W hSw; (try dsimp only at hSw); go_simp; try with_reducible rfl)
                  case' restxc23 => try simp only [Act.put, List.setIfInBounds_toArray, List.set_cons_zero, List.set_cons_succ]
                  refine wpAnyH_take (i := 23) (oi := ⟨some 85, _, _, _, _, _⟩) (v := ?vxc24) rfl (by kernel_rfl) (by kernel_rfl) (by kernel_rfl) (fun _ _ _ h => h) (Or.inl ⟨by kernel_rfl, ?hyxc24⟩) (by assumption) ?restxc24
                  case hyxc24 => (intro W hSw; (try dsimp only at hSw); go_simp; try with_reducible rfl)
                  case' restxc24 => try simp only [Act.put, List.setIfInBounds_toArray, List.set_cons_zero, List.set_cons_succ]
                  refine wpAnyH_take (i := 24) (oi := ⟨some 86, _, _, _, _, _⟩) (v := undef) rfl (by kernel_rfl) (by kernel_rfl) (by kernel_rfl) (fun _ _ _ h => h) (Or.inr ⟨by kernel_rfl, rfl⟩) (by assumption) ?restxc25
                  case' restxc25 => try simp only [Act.put, List.setIfInBounds_toArray, List.set_cons_zero, List.set_cons_succ]
                  refine wpAnyH_take (i := 25) (oi := ⟨some 87, _, _, _, _, _⟩) (v := undef) rfl (by kernel_rfl) (by kernel_rfl) (by kernel_rfl) (fun _ _ _ h => h) (Or.inr ⟨by kernel_rfl, rfl⟩) (by assumption) ?restxc26
                  case' restxc26 => try simp only [Act.put, List.setIfInBounds_toArray, List.set_cons_zero, List.set_cons_succ]
                  refine wpAnyH_take (i := 26) (oi := ⟨some 88, _, _, _, _, _⟩) (v := undef) rfl (by kernel_rfl) (by kernel_rfl) (by kernel_rfl) (fun _ _ _ h => h) (Or.inr ⟨by kernel_rfl, rfl⟩) (by assumption) ?restxc27
                  case' restxc27 => try simp only [Act.put, List.setIfInBounds_toArray, List.set_cons_zero, List.set_cons_succ]
                  refine wpAnyH_take (i := 27) (oi := ⟨some 89, _, _, _, _, _⟩) (v := ?vxc28) rfl (by kernel_rfl) (by kernel_rfl) (by kernel_rfl) (fun _ _ _ h => h) (Or.inl ⟨by kernel_rfl, ?hyxc28⟩) (by assumption) ?restxc28
                  case hyxc28 => (intro W hSw; (try dsimp only at hSw); go_simp; try with_reducible rfl)
                  case' restxc28 => try simp only [Act.put, List.setIfInBounds_toArray, List.set_cons_zero, List.set_cons_succ]
                  refine wpAnyH_take (i := 28) (oi := ⟨some 90, _, _, _, _, _⟩) (v := ?vxc29) rfl (by kernel_rfl) (by kernel_rfl) (by kernel_rfl) (fun _ _ _ h => h) (Or.inl ⟨by kernel_rfl, ?hyxc29⟩) (by assumption) ?restxc29
                  case hyxc29 => (intro W hSw; (try dsimp only at hSw); go_simp; try with_reducible rfl)
                  case' restxc29 => try simp only [Act.put, List.setIfInBounds_toArray, List.set_cons_zero, List.set_cons_succ]
                  refine wpAnyH_take (i := 29) (oi := ⟨some 8, _, _, _, _, _⟩) (v := ?vxc30) rfl (by kernel_rfl) (by kernel_rfl) (by kernel_rfl) (fun _ _ _ h => h) (Or.inl ⟨by kernel_rfl, ?hyxc30⟩) (by assumption) ?restxc30
                  case hyxc30 => (intro W hSw; (try dsimp only at hSw); go_simp; try with_reducible rfl)
                  case' restxc30 => try simp only [Act.put, List.setIfInBounds_toArray, List.set_cons_zero, List.set_cons_succ]
                  refine wpAnyH_done (by kernel_rfl) ?_ _
                  go_wp2
                  go_ret
                  exact RetV.bool (by rw [HE.out, HRES.out]; first | done | rfl | exact decide_eq_decide.2 (by omega)) (hbw.trans (hS1.mono hbw.size))
    · obtain rfl : k = F.length := by omega
      have hd : decide (F.length < F.length) = false := decide_eq_false (by omega)
      have HN : Hid (lexB l a b F = false) := Lib.hid (by rw [hlex.out, List.drop_length]; rfl)
      go_wp2
      go_ret
      exact RetV.bool (by rw [HE.out, HN.out]) hbw
end Go.Proofs
