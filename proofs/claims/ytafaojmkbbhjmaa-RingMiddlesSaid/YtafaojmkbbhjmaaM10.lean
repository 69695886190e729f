/- The reference's row, walked. -/
import Derived.Test.YtafaojmkbbhjmaaM7
import Derived.Test.YtafaojmkbbhjmaaC9
import Derived.Test.YtafaojmkbbhjmaaS7
import Derived.StillTailTactics
set_option linter.unusedVariables false
set_option linter.unusedSimpArgs false
namespace Go.Proofs
open Go.RowKit Go.Proofs.Mp

theorem mid_pos {W d s v : Int} (hd : 0 < d) (hs : 0 ≤ s) (hsd : s ≤ d) (hW : W = v * s) : min 0 v ≤ flo W d ∧ cei W d ≤ max 0 v := by
  obtain ⟨f1, f2⟩ := flo_spec (a := W) hd
  obtain ⟨c1, c2⟩ := cei_spec (a := W) hd
  have k1 : min 0 v * d ≤ W := by
    rcases Int.le_total 0 v with h | h
    · have := Int.mul_nonneg h hs
      rw [Int.min_eq_left h, Int.zero_mul]; omega
    · have := Int.mul_le_mul_of_nonpos_left h hsd
      rw [Int.min_eq_right h, hW]; exact this
  have k2 : W ≤ max 0 v * d := by
    rcases Int.le_total 0 v with h | h
    · have := Int.mul_le_mul_of_nonneg_left hsd h
      rw [Int.max_eq_right h, hW]; exact this
    · have := Int.mul_nonpos_of_nonpos_of_nonneg h hs
      rw [Int.max_eq_left h, Int.zero_mul]; omega
  rw [Int.mul_comm] at k1 k2
  constructor
  · have : min 0 v < flo W d + 1 := Int.lt_of_mul_lt_mul_left (Int.lt_of_le_of_lt k1 f2) (Int.le_of_lt hd)
    omega
  · have : cei W d - 1 < max 0 v := Int.lt_of_mul_lt_mul_left (Int.lt_of_lt_of_le c1 k2) (Int.le_of_lt hd)
    omega
theorem mid_any {W d s v : Int} (h : (0 < d ∧ 0 ≤ s ∧ s ≤ d) ∨ (d < 0 ∧ s ≤ 0 ∧ d ≤ s)) (hW : W = v * s) : min 0 v ≤ flo W d ∧ cei W d ≤ max 0 v := by
  rcases h with ⟨h1, h2, h3⟩ | ⟨h1, h2, h3⟩
  · exact mid_pos h1 h2 h3 hW
  · have e1 : flo W d = flo (-W) (-d) := by unfold flo; rw [if_neg (by omega), if_pos (by omega)]
    have e2 : cei W d = cei (-W) (-d) := (cei_neg W d (by omega)).symm
    rw [e1, e2]
    exact mid_pos (s := -s) (by omega) (by omega) (by omega) (by rw [hW, Int.mul_neg])
theorem brk_in {a b : Pt} {y z : Int} (h : z ∈ brk y a b) : min a.1 b.1 ≤ z ∧ z ≤ max a.1 b.1 := by
  unfold brk at h
  split at h
  · cases h
  · rename_i hr
    split at h
    · simp only [List.mem_cons, List.not_mem_nil, or_false] at h
      omega
    · rename_i hne
      have hm := mid_any (W := wayI y a b) (d := b.2 - a.2) (s := y - a.2) (v := b.1 - a.1) (by omega) rfl
      have hg := go_div (wayI y a b) (b.2 - a.2) (by omega)
      unfold upI at h
      simp only [List.mem_cons, List.not_mem_nil, or_false] at h
      omega
theorem at_vp {l : List Pt} {y : Int} (hv : allVp l) {k : Nat} (hk : k ≤ l.length) {z : Int} (hz : z ∈ atTo l y k) : -1048576 ≤ z ∧ z ≤ 1048576 := by
  obtain ⟨i, hi, h⟩ := (atTo_mem k).1 hz
  have h1 := brk_in h
  obtain ⟨a1, a2, _, _⟩ := hv i (by omega)
  obtain ⟨b1, b2, _, _⟩ := edE_vp hv (show i < l.length by omega)
  omega
theorem atTo_len (l : List Pt) (y : Int) : ∀ k, (atTo l y k).length ≤ 2 * k
  | 0 => Nat.le_refl _
  | k + 1 => by
    have h1 := atTo_len l y k
    have h2 := putL_len (putL [] (atTo l y k)) (brk y l[k]! (edE l k))
    have h3 := putL_len [] (atTo l y k)
    have h4 := brk_len y l[k]! (edE l k)
    simp only [List.length_nil] at h3
    unfold atTo
    omega
theorem pcs_len (IN : Int → Bool) (zs : List Int) : ∀ k, (pcs IN zs k).length ≤ 2 * k
  | 0 => Nat.le_refl _
  | k + 1 => by
    have := pcs_len IN zs k
    unfold pcs pcA pcB
    simp only [List.length_append]
    split <;> split <;> simp <;> omega
theorem in_one {l : List Pt} {x y : Int} (hp : polyE l = 0) (hx : -1048576 ≤ x ∧ x ≤ 1048576) (hy : -1048576 ≤ y ∧ y ≤ 1048576) : (inN l (x, y) == 1) = inB l y x := by
  unfold inN inB
  rw [if_pos ⟨hp, by unfold Vp; dsimp only; omega⟩]
  cases onAny l (x, y) <;> cases parTo l (x, y) l.length <;> rfl
theorem RdI.getAll {w w' : World} {A : Option Addr} {xs : List Int} {k : Nat} (h : RdI w A xs) (hb : Below w.heap.size w w') (hk : k < xs.length) :
    ∃ b off, A = some ⟨b, off, none⟩ ∧ b < w.heap.size ∧ ∀ j, j < xs.length → w'.cell? ⟨b, off + j, none⟩ = some (.int .i64 xs[j]!) := by
  rcases h with rfl | ⟨b, off, rfl, hb0, hc⟩
  · simp at hk
  · refine ⟨b, off, rfl, hb0, fun j hj => ?_⟩
    have := hc j hj 0 (.int .i64 xs[j]!) rfl
    rw [Nat.mul_one, Nat.add_zero] at this
    exact (hb.cell (p := ⟨b, off + j, none⟩) hb0).trans this

set_option maxRecDepth 100000 in
set_option maxHeartbeats 16000000 in
theorem ref_row (A : Option Addr) (c : Nat) (l : List Pt) (y : Int) (w : World) (hp : polyE l = 0) (hy1 : -1048576 ≤ y) (hy2 : y ≤ 1048576) (hR : RdR w A l) :
    Calls Try.prog 37 #[.slice A l.length c, .int .i64 y] w (RetR w (pcL l y)) := by
  obtain ⟨hv, hn3, hn⟩ := polyE_zero hp
  have cE := Lib.hid fun (i : Nat) (hi : i < l.length) (W : World) (hb : Below w.heap.size w W) => ref_end A c l i W (by omega) hi (hR.below hb)
  have cB := Lib.hid fun (i : Nat) (hi : i < l.length) (W : World) => ref_breaks l[i]! (edE l i) y W (hv i hi) (edE_vp hv hi) hy1 hy2
  have cI := Lib.hid fun (x : Int) (W : World) (hb : Below w.heap.size w W) => ref_in A c l (x, y) W (by omega) (hR.below hb)
  have hI := Lib.hid fun (x : Int) (h : -1048576 ≤ x ∧ x ≤ 1048576) => in_one hp h ⟨hy1, hy2⟩
  have hA1 := Lib.hid (show ∀ k, atTo l y (k + 1) = putL (putL [] (atTo l y k)) (brk y l[k]! (edE l k)) from fun _ => rfl)
  have hA0 := Lib.hid (show atTo l y 0 = [] from rfl)
  have hAL := Lib.hid (atTo_len l y)
  have hBL := Lib.hid fun i => brk_len y l[i]! (edE l i)
  have hAV := Lib.hid fun (i : Nat) (hi : i < (atTo l y l.length).length) => at_vp (y := y) hv (Nat.le_refl _) (show (atTo l y l.length)[i]! ∈ atTo l y l.length by rw [getElem!_pos _ i hi]; exact List.getElem_mem _)
  have HP := Lib.hid (show pcL l y = pcs (inB l y) (atTo l y l.length) (atTo l y l.length).length from rfl)
  have HR := Lib.hid hR
  have HRc := Lib.hid fun (k : Nat) (hlt : k < l.length) (W : World) (hb : Below w.heap.size w W) => RdR.get hR hb hlt
  generalize pcL l y = res at *
  generalize inB l y = IN at *
  generalize atTo l y = at_ at *
  unfold aggP at cE cI cB
  dsimp only at cI
  clear hv hp hR
  go_enter Try.func37, Try.ntmps37
  go_wp2_with fail
  go_loopw [5, 6] (fun v i wr => ∃ (k : Nat) (A' : Option Addr) (c' : Nat), k ≤ l.length ∧ i = .int .i64 k ∧ v = .slice A' (at_ k).length c' ∧ RdI wr A' (at_ k) ∧ Below w.heap.size w wr) (fun _ i _ => l.length - (intOf i).toNat)
  case atStart => exact ⟨0, none, 0, by omega, rfl, by rw [hA0.out]; rfl, by rw [hA0.out]; exact Rd.nil _, Below.refl _ _⟩
  case round =>
    obtain ⟨k, A', c', hk, rfl, rfl, hRo, hbw⟩ := hrel
    by_cases hlt : k < l.length
    · obtain ⟨b, off, rfl, hb, g1, g2⟩ := HRc.out k hlt wr hbw
      have HX := Lib.hid (hA1.out k)
      have hl1 := hAL.out k
      have hl2 := hBL.out k
      have cE1 := Lib.hid fun W hb => cE.out k hlt W hb
      have cB1 := Lib.hid fun W => cB.out k hlt W
      obtain ⟨⟨x1, x2⟩, hx⟩ : ∃ p, l[k]! = p := ⟨_, rfl⟩
      obtain ⟨⟨z1, z2⟩, hz⟩ : ∃ p, edE l k = p := ⟨_, rfl⟩
      rw [hx] at g1 g2 HX hl2 cB1
      rw [hz] at HX hl2 cE1 cB1
      clear hx hz
      generalize brk y (x1, x2) (z1, z2) = bk at *
      generalize at_ k = o at *
      dsimp only at g1 g2 cE1 cB1
      have hRo' : RdI wr.drew A' o := hRo
      have hbs := hbw.size
      have hb0 : Below w.heap.size w wr.drew := below_drewN hbw 1
      have hbr : b < wr.drew.heap.size := Nat.lt_of_lt_of_le hb hbs
      have hbs2 : w.heap.size ≤ wr.drew.heap.size := hbs
      clear hRo
      go_wp2_with fail
      go_region_held3 (fun w' => w'.cell? ⟨b, off + k * 2, none⟩ = some (.int .i64 x1) ∧ w'.cell? ⟨b, off + k * 2 + 1, none⟩ = some (.int .i64 x2)) (first | exact ⟨g1, g2⟩ | exact hS1 | exact hS2 | exact hS3)
        (first
          | (go_at_call 32; refine (cE1.out _ hb0).mono ?_; rintro e w1 ⟨rfl, hb1⟩; have hS1 : (fun w' : World => w'.cell? ⟨b, off + k * 2, none⟩ = some (.int .i64 x1) ∧ w'.cell? ⟨b, off + k * 2 + 1, none⟩ = some (.int .i64 x2)) w1 := ⟨(hb1.cell (p := ⟨b, off + k * 2, none⟩) hbr).trans g1, (hb1.cell (p := ⟨b, off + k * 2 + 1, none⟩) hbr).trans g2⟩)
          | (go_at_call 53; refine (cB1.out _).mono ?_; rintro e w2 ⟨B2, d2, rfl, hd2, hR2, hb2⟩; have hb12 := hb1.trans (hb2.mono hb1.size); have hS2 : (fun w' : World => w'.cell? ⟨b, off + k * 2, none⟩ = some (.int .i64 x1) ∧ w'.cell? ⟨b, off + k * 2 + 1, none⟩ = some (.int .i64 x2)) w2 := ⟨(hb12.cell (p := ⟨b, off + k * 2, none⟩) hbr).trans g1, (hb12.cell (p := ⟨b, off + k * 2 + 1, none⟩) hbr).trans g2⟩; have hRo2 := hRo'.below hb12)
          | (go_at_call 52; refine (ref_union _ _ _ _ _ _ _ (by omega) (by omega) hRo2 hR2).mono ?_; rintro e w3 ⟨A3, c3, rfl, hc3, hR3, hb3⟩; have hb13 := hb12.trans (hb3.mono hb12.size); have hS3 : (fun w' : World => w'.cell? ⟨b, off + k * 2, none⟩ = some (.int .i64 x1) ∧ w'.cell? ⟨b, off + k * 2 + 1, none⟩ = some (.int .i64 x2)) w3 := ⟨(hb13.cell (p := ⟨b, off + k * 2, none⟩) hbr).trans g1, (hb13.cell (p := ⟨b, off + k * 2 + 1, none⟩) hbr).trans g2⟩))
      all_goals
        have hbE := hb0.trans (hb13.mono hbs2)
        rw [← HX.out] at hR3
        clear hRo' hRo2 hR2 hb1 hb2 hb3 hb12 hb13 g1 g2 hS1 hS2 hS3 hb0 hbw
        have HL3 := Lib.hid HX.out
        rw [← HX.out]
        go_wp2
        go_roundw
        case rel => exact ⟨k + 1, A3, c3, by omega, by go_num, rfl, hR3, hbE⟩
        case measure => simp [intOf]; omega
    · obtain rfl : k = l.length := by omega
      clear hk hlt
      have hla := hAL.out l.length
      generalize at_ l.length = zs at *
      clear hAL hA1 hA0 hBL cE cB HRc
      have HPC := Lib.hid (show ∀ i, pcs IN zs (i + 1) = pcs IN zs i ++ pcA IN zs i ++ pcB IN zs i from fun _ => rfl)
      have HPL := Lib.hid (pcs_len IN zs)
      go_wp2_with fail
      generalize wr = wa at *
      have hbws := hbw.size
      go_loopw [7, 8] (fun v i wr => ∃ i' : Nat, i' ≤ zs.length ∧ i = .int .i64 i' ∧ OwnR 52 wr wa.heap.size v (pcs IN zs i') ∧ Below wa.heap.size wa wr) (fun _ i _ => zs.length - (intOf i).toNat)
      case atStart => exact ⟨0, by omega, rfl, Own.nil _ _, Below.refl _ _⟩
      case round =>
        obtain ⟨i, hi, rfl, hown, hbx⟩ := hrel
        by_cases hlt : i < zs.length
        rotate_left
        · obtain rfl : i = zs.length := by omega
          rw [← HP.out] at hown
          go_wp2
          go_ret
          exact RetRd.of_own encR_len hown (hbw.trans (hbx.mono hbws))
        · obtain ⟨b, off, rfl, hb, hcz⟩ := RdI.getAll hRo (Below.refl _ _) hlt
          have HC := Lib.hid fun (j : Nat) (hj : j < zs.length) (W : World) (hW : Below wa.heap.size wa W) => (hW.cell (p := ⟨b, off + j, none⟩) hb).trans (hcz j hj)
          clear hcz hRo
          have hx0 := hAV.out i hlt
          have c0 := HC.out i hlt wr hbx
          have hl := HPL.out i
          have hbxs := hbx.size
          have HS := Lib.hid (HPC.out i)
          have HA := Lib.hid (show pcA IN zs i = if IN zs[i]! = true then [(zs[i]!, zs[i]! + 1)] else [] from rfl)
          have HB := Lib.hid (show pcB IN zs i = if i + 1 < zs.length ∧ zs[i]! + 1 < zs[i + 1]! ∧ IN (zs[i]! + 1) = true then [(zs[i]! + 1, zs[i + 1]!)] else [] from rfl)
          have HCi := Lib.hid fun W hW => HC.out i hlt W hW
          have HI0 := Lib.hid (hI.out zs[i]! hx0)
          obtain ⟨x0, hx⟩ : ∃ x, zs[i]! = x := ⟨_, rfl⟩
          rw [hx] at hx0 c0 HA HB HCi HI0
          clear hx
          obtain ⟨b1, b2⟩ := hx0
          have hwr : IntKind.i64.wrap (x0 + 1) = x0 + 1 := IntWalk.i64_in _ (by omega)
          have hwi : IntKind.i64.wrap ((i : Int) + 1) = (i : Int) + 1 := IntWalk.i64_in _ (by omega)
          have HWR := Lib.hid hwr
          have HWI := Lib.hid hwi
          obtain ⟨ps, hps⟩ : ∃ ps, pcs IN zs i = ps := ⟨_, rfl⟩
          rw [hps] at hown hl HS
          clear hps
          have hil : (i : Int) < (zs.length : Int) := by omega
          have hi0 : (0 : Int) ≤ (i : Int) := by omega
          clear hwr hwi
          go_wp2_with fail
          refine (cI.out x0 _ (hbw.trans (hbx.mono hbws))).mono ?_
          rintro e w1 ⟨rfl, hb1⟩
          have hbx1 := hbx.trans (hb1.mono hbxs)
          have hown1 := hown.below hb1
          have c1 := HCi.out _ hbx1
          clear hown hbx hb1 c0 hbxs
          obtain ⟨n0, hn0⟩ : ∃ n, inN l (x0, y) = n := ⟨_, rfl⟩
          rw [hn0] at HI0 ⊢
          clear hn0
          by_cases h1 : IN x0 = true
          · rw [h1] at HI0
            have HA2 := Lib.hid (HA.out.trans (if_pos h1))
            have hn0 := HI0.out
            clear HI0 h1 HA
            go_upto_region 11 with fail
            have k1 : w1.drew.cell? ⟨b, off + i, none⟩ = some (.int .i64 x0) := c1
            have hbx2 : Below wa.heap.size wa w1.drew := below_drewN hbx1 1
            have hown2 : OwnR 52 w1.drew wa.heap.size _ ps := hown1
            have hbs2 := hbx2.size
            have hwr := HWR.out
            have k1a : (w1.drew.alloc (.cells #[.int .i64 x0, .int .i64 (x0 + 1)] 52)).cell? ⟨b, off + i, none⟩ = some (.int .i64 x0) := HCi.out _ (hbx2.alloc hbs2 _)
            go_region_held3 (fun w' => w'.cell? ⟨b, off + i, none⟩ = some (.int .i64 x0)) (first | exact k1 | exact k1a | exact c3)
              (first
                | (refine Try.stepR hown2 _ _ rfl _ _ rfl rfl rfl (by omega) hbs2 ?_; clear hown2; intro v3 w3 hown3 hb3; have hbx3 := hbx2.trans hb3; have c3 := HCi.out _ hbx3))
            clear hown1 hbx1 c1
            clear hwr hbx2 hb3 k1 k1a hbs2
            have HS2 := Lib.hid (HS.out.trans (show ps ++ pcA IN zs i ++ pcB IN zs i = (ps ++ [(x0, x0 + 1)]) ++ pcB IN zs i by rw [HA2.out] <;> simp))
            have hbs2 := hbx3.size
            by_cases h2 : i + 1 < zs.length
            rotate_left
            · have HB2 := Lib.hid (HB.out.trans (if_neg fun h => h2 h.1))
              have h2' : ¬ ((i : Int) + 1 < (zs.length : Int)) := by omega
              have hd2 : decide ((i : Int) + 1 < (zs.length : Int)) = false := decide_eq_false h2'
              have hwi := HWI.out
              go_upto_region 12 with fail
              go_quiet (fail)
              have hown9 := Lib.hid (hown3.drewN nq)
              have hbx9 := Lib.hid (below_drewN hbx3 nq)
              clear hown3 hbx3
              go_wp2
              go_roundw
              case rel => exact ⟨i + 1, by omega, by go_num, by rw [HS2.out, HB2.out, List.append_nil]; exact hown9.out, hbx9.out⟩
              case measure => simp [intOf]; omega
            · have c2 := HC.out (i + 1) h2 _ hbx3
              have HC2 := Lib.hid fun W hW => HC.out (i + 1) h2 W hW
              obtain ⟨u1, u2⟩ := hAV.out (i + 1) h2
              obtain ⟨x1, hx⟩ : ∃ x, zs[i + 1]! = x := ⟨_, rfl⟩
              rw [hx] at c2 HC2 u1 u2 HB
              clear hx
              have h2' : ((i : Int) + 1 < (zs.length : Int)) := by omega
              have hd2 : decide ((i : Int) + 1 < (zs.length : Int)) = true := decide_eq_true h2'
              have hi1 : (0 : Int) ≤ (i : Int) + 1 := by omega
              by_cases h3 : x0 + 1 < x1
              rotate_left
              · have HB2 := Lib.hid (HB.out.trans (if_neg fun h => h3 h.2.1))
                have hd3 : decide (x0 + 1 < x1) = false := decide_eq_false h3
                have hwi := HWI.out
                have hwr := HWR.out
                go_upto_region 12 with fail
                go_quiet (fail)
                have hown9 := Lib.hid (hown3.drewN nq)
                have hbx9 := Lib.hid (below_drewN hbx3 nq)
                clear hown3 hbx3 c3 c2
                go_wp2
                go_roundw
                case rel => exact ⟨i + 1, by omega, by go_num, by rw [HS2.out, HB2.out, List.append_nil]; exact hown9.out, hbx9.out⟩
                case measure => simp [intOf]; omega
              · have hd3 : decide (x0 + 1 < x1) = true := decide_eq_true h3
                have hwi := HWI.out
                have hwr := HWR.out
                go_upto_region 12 with fail
                refine wp_region_still_tail 27 (by kernel_rfl) (by kernel_rfl) ?_
                simp only [List.take_succ_cons, List.take_zero, List.drop_succ_cons, List.drop_zero]
                change wpStill _ _ w3.drew (fun a' => wpList _ _ _ _ a' w3.drew) _ _
                have k1 : w3.drew.cell? ⟨b, off + i, none⟩ = some (.int .i64 x0) := c3
                have k2 : w3.drew.cell? ⟨b, off + (i + 1), none⟩ = some (.int .i64 x1) := c2
                have hbx4 : Below wa.heap.size wa w3.drew := below_drewN hbx3 1
                have hown4 : OwnR 52 w3.drew wa.heap.size _ ((ps ++ [(x0, x0 + 1)])) := hown3
                clear hown3 hbx3 c3 c2 hbs2
                generalize w3.drew = w4 at *
                have hbs4 := hbx4.size
                repeat still_step
                refine wpStill_nil ?_
                have hI1 := hI.out (x0 + 1) (by omega)
                go_wp2_with fail
                refine (cI.out (x0 + 1) _ (hbw.trans (hbx4.mono hbws))).mono ?_
                rintro e w5 ⟨rfl, hb5⟩
                have hbx5 := hbx4.trans (hb5.mono hbs4)
                have hown5 := hown4.below hb5
                have c5 := HCi.out _ hbx5
                have c6 := HC2.out _ hbx5
                clear hown4 hbx4 hb5 k1 k2 hbs4
                obtain ⟨n1, hn1⟩ : ∃ n, inN l (x0 + 1, y) = n := ⟨_, rfl⟩
                rw [hn1] at hI1 ⊢
                clear hn1
                have hbs5 := hbx5.size
                by_cases h4 : IN (x0 + 1) = true
                · rw [h4] at hI1
                  have HB2 := Lib.hid (HB.out.trans (if_pos ⟨h2, h3, h4⟩))
                  clear h4
                  go_upto_region 13 with fail
                  have k1 : w5.drew.cell? ⟨b, off + i, none⟩ = some (.int .i64 x0) := c5
                  have k2 : w5.drew.cell? ⟨b, off + (i + 1), none⟩ = some (.int .i64 x1) := c6
                  have hbx6 : Below wa.heap.size wa w5.drew := below_drewN hbx5 1
                  have hown6 : OwnR 52 w5.drew wa.heap.size _ ((ps ++ [(x0, x0 + 1)])) := hown5
                  have hbs6 := hbx6.size
                  have k1a := HCi.out _ (hbx6.alloc hbs6 (.cells #[.int .i64 (x0 + 1), .int .i64 x1] 52))
                  have k2a := HC2.out _ (hbx6.alloc hbs6 (.cells #[.int .i64 (x0 + 1), .int .i64 x1] 52))
                  go_region_held3 (fun w' => w'.cell? ⟨b, off + i, none⟩ = some (.int .i64 x0) ∧ w'.cell? ⟨b, off + (i + 1), none⟩ = some (.int .i64 x1)) (first | exact ⟨k1, k2⟩ | exact ⟨k1a, k2a⟩ | exact ⟨c7, c8⟩)
                    (first
                      | (refine Try.stepR hown6 _ _ rfl _ _ rfl rfl rfl (by first | omega | (simp only [List.length_append, List.length_cons, List.length_nil]; omega)) hbs6 ?_; clear hown6; intro v7 w7 hown7 hb7; have hbx7 := hbx6.trans hb7; have c7 := HCi.out _ hbx7; have c8 := HC2.out _ hbx7))
                  go_wp2
                  go_roundw
                  case rel => exact ⟨i + 1, by omega, by go_num, by rw [HS2.out, HB2.out]; exact hown7, hbx7⟩
                  case measure => simp [intOf]; omega
                · rw [Bool.not_eq_true] at h4
                  rw [h4] at hI1
                  have HB2 := Lib.hid (HB.out.trans (if_neg fun h => (by rw [h4] at h; exact absurd h.2.2 (by decide))))
                  have hown9 := Lib.hid hown5
                  have hbx9 := Lib.hid hbx5
                  clear h4 hown5 hbx5
                  go_wp2
                  go_roundw
                  case rel => exact ⟨i + 1, by omega, by go_num, by rw [HS2.out, HB2.out, List.append_nil]; exact hown9.out, hbx9.out⟩
                  case measure => simp [intOf]; omega
          · rw [Bool.not_eq_true] at h1
            rw [h1] at HI0
            have HA2 := Lib.hid (HA.out.trans (if_neg (by rw [h1]; decide)))
            have hn0 := HI0.out
            clear HI0 h1 HA
            have HS2 := Lib.hid (HS.out.trans (show ps ++ pcA IN zs i ++ pcB IN zs i = ps ++ pcB IN zs i by rw [HA2.out] <;> simp))
            have hbs2 := hbx1.size
            by_cases h2 : i + 1 < zs.length
            rotate_left
            · have HB2 := Lib.hid (HB.out.trans (if_neg fun h => h2 h.1))
              have h2' : ¬ ((i : Int) + 1 < (zs.length : Int)) := by omega
              have hd2 : decide ((i : Int) + 1 < (zs.length : Int)) = false := decide_eq_false h2'
              have hwi := HWI.out
              go_upto_region 12 with fail
              go_quiet (fail)
              have hown9 := Lib.hid (hown1.drewN nq)
              have hbx9 := Lib.hid (below_drewN hbx1 nq)
              clear hown1 hbx1
              go_wp2
              go_roundw
              case rel => exact ⟨i + 1, by omega, by go_num, by rw [HS2.out, HB2.out, List.append_nil]; exact hown9.out, hbx9.out⟩
              case measure => simp [intOf]; omega
            · have c2 := HC.out (i + 1) h2 _ hbx1
              have HC2 := Lib.hid fun W hW => HC.out (i + 1) h2 W hW
              obtain ⟨u1, u2⟩ := hAV.out (i + 1) h2
              obtain ⟨x1, hx⟩ : ∃ x, zs[i + 1]! = x := ⟨_, rfl⟩
              rw [hx] at c2 HC2 u1 u2 HB
              clear hx
              have h2' : ((i : Int) + 1 < (zs.length : Int)) := by omega
              have hd2 : decide ((i : Int) + 1 < (zs.length : Int)) = true := decide_eq_true h2'
              have hi1 : (0 : Int) ≤ (i : Int) + 1 := by omega
              by_cases h3 : x0 + 1 < x1
              rotate_left
              · have HB2 := Lib.hid (HB.out.trans (if_neg fun h => h3 h.2.1))
                have hd3 : decide (x0 + 1 < x1) = false := decide_eq_false h3
                have hwi := HWI.out
                have hwr := HWR.out
                go_upto_region 12 with fail
                go_quiet (fail)
                have hown9 := Lib.hid (hown1.drewN nq)
                have hbx9 := Lib.hid (below_drewN hbx1 nq)
                clear hown1 hbx1 c1 c2
                go_wp2
                go_roundw
                case rel => exact ⟨i + 1, by omega, by go_num, by rw [HS2.out, HB2.out, List.append_nil]; exact hown9.out, hbx9.out⟩
                case measure => simp [intOf]; omega
              · have hd3 : decide (x0 + 1 < x1) = true := decide_eq_true h3
                have hwi := HWI.out
                have hwr := HWR.out
                go_upto_region 12 with fail
                refine wp_region_still_tail 27 (by kernel_rfl) (by kernel_rfl) ?_
                simp only [List.take_succ_cons, List.take_zero, List.drop_succ_cons, List.drop_zero]
                change wpStill _ _ w1.drew (fun a' => wpList _ _ _ _ a' w1.drew) _ _
                have k1 : w1.drew.cell? ⟨b, off + i, none⟩ = some (.int .i64 x0) := c1
                have k2 : w1.drew.cell? ⟨b, off + (i + 1), none⟩ = some (.int .i64 x1) := c2
                have hbx4 : Below wa.heap.size wa w1.drew := below_drewN hbx1 1
                have hown4 : OwnR 52 w1.drew wa.heap.size _ (ps) := hown1
                clear hown1 hbx1 c1 c2 hbs2
                generalize w1.drew = w4 at *
                have hbs4 := hbx4.size
                repeat still_step
                refine wpStill_nil ?_
                have hI1 := hI.out (x0 + 1) (by omega)
                go_wp2_with fail
                refine (cI.out (x0 + 1) _ (hbw.trans (hbx4.mono hbws))).mono ?_
                rintro e w5 ⟨rfl, hb5⟩
                have hbx5 := hbx4.trans (hb5.mono hbs4)
                have hown5 := hown4.below hb5
                have c5 := HCi.out _ hbx5
                have c6 := HC2.out _ hbx5
                clear hown4 hbx4 hb5 k1 k2 hbs4
                obtain ⟨n1, hn1⟩ : ∃ n, inN l (x0 + 1, y) = n := ⟨_, rfl⟩
                rw [hn1] at hI1 ⊢
                clear hn1
                have hbs5 := hbx5.size
                by_cases h4 : IN (x0 + 1) = true
                · rw [h4] at hI1
                  have HB2 := Lib.hid (HB.out.trans (if_pos ⟨h2, h3, h4⟩))
                  clear h4
                  go_upto_region 13 with fail
                  have k1 : w5.drew.cell? ⟨b, off + i, none⟩ = some (.int .i64 x0) := c5
                  have k2 : w5.drew.cell? ⟨b, off + (i + 1), none⟩ = some (.int .i64 x1) := c6
                  have hbx6 : Below wa.heap.size wa w5.drew := below_drewN hbx5 1
                  have hown6 : OwnR 52 w5.drew wa.heap.size _ (ps) := hown5
                  have hbs6 := hbx6.size
                  have k1a := HCi.out _ (hbx6.alloc hbs6 (.cells #[.int .i64 (x0 + 1), .int .i64 x1] 52))
                  have k2a := HC2.out _ (hbx6.alloc hbs6 (.cells #[.int .i64 (x0 + 1), .int .i64 x1] 52))
                  go_region_held3 (fun w' => w'.cell? ⟨b, off + i, none⟩ = some (.int .i64 x0) ∧ w'.cell? ⟨b, off + (i + 1), none⟩ = some (.int .i64 x1)) (first | exact ⟨k1, k2⟩ | exact ⟨k1a, k2a⟩ | exact ⟨c7, c8⟩)
                    (first
                      | (refine Try.stepR hown6 _ _ rfl _ _ rfl rfl rfl (by first | omega | (simp only [List.length_append, List.length_cons, List.length_nil]; omega)) hbs6 ?_; clear hown6; intro v7 w7 hown7 hb7; have hbx7 := hbx6.trans hb7; have c7 := HCi.out _ hbx7; have c8 := HC2.out _ hbx7))
                  go_wp2
                  go_roundw
                  case rel => exact ⟨i + 1, by omega, by go_num, by rw [HS2.out, HB2.out]; exact hown7, hbx7⟩
                  case measure => simp [intOf]; omega
                · rw [Bool.not_eq_true] at h4
                  rw [h4] at hI1
                  have HB2 := Lib.hid (HB.out.trans (if_neg fun h => (by rw [h4] at h; exact absurd h.2.2 (by decide))))
                  have hown9 := Lib.hid hown5
                  have hbx9 := Lib.hid hbx5
                  clear h4 hown5 hbx5
                  go_wp2
                  go_roundw
                  case rel => exact ⟨i + 1, by omega, by go_num, by rw [HS2.out, HB2.out, List.append_nil]; exact hown9.out, hbx9.out⟩
                  case measure => simp [intOf]; omega
end Go.Proofs
