import Derived.Test.YtoknjlodhohioaaT37
set_option linter.unusedVariables false
set_option linter.unusedSimpArgs false
namespace Go.Proofs
open Go.RowKit Go.Proofs.Mp Go.Proofs.Uf

theorem valid_true {A : Option Addr} {c : Nat} {x : List Int} {w : World} (h60 : x.length ≤ 1000) (hR : RdI w A x) (hA : ascB x = true) : Calls Try.prog 18 #[.slice A x.length c] w (RetV w (.bool true)) := by
  have := ref_valid A c x w (by omega) hR
  rwa [hA] at this

/-- what the walk asks of the groups -/
def GrpOk (gs : List (List Int)) : Prop := (∀ i, i < gs.length → ascB gs[i]! = true ∧ 0 < gs[i]!.length) ∧ ∀ i, i + 1 < gs.length → gs[i]![0]! < gs[i + 1]![0]!
theorem cls_ok (l : List Cand) : GrpOk (cls l) := by
  have key : ∀ i, i < (cls l).length → ∃ t, (cls l)[i]! = (reps l)[i]! :: t := fun i hi => by
    rw [cls_len] at hi
    rw [cls_get hi]
    exact grp_head (by rw [getElem!_pos (reps l) i hi]; exact List.getElem_mem hi)
  refine ⟨fun i hi => ⟨?_, ?_⟩, fun i hi => ?_⟩
  · rw [cls_get (by rw [← cls_len]; exact hi)]
    exact (ascB_iff _).2 (grp_asc l _)
  · obtain ⟨t, ht⟩ := key i hi
    rw [ht]; simp
  · obtain ⟨t, ht⟩ := key i (by omega)
    obtain ⟨t', ht'⟩ := key (i + 1) hi
    rw [ht, ht']
    rw [cls_len] at hi
    show (reps l)[i]! < (reps l)[i + 1]!
    rw [getElem!_pos (reps l) i (by omega), getElem!_pos (reps l) (i + 1) hi]
    exact (List.pairwise_iff_getElem.1 (reps_asc l)) i (i + 1) (by omega) hi (by omega)
theorem sumLen_le {gs : List (List Int)} {N : Nat} (h : ∀ g ∈ gs, g.length ≤ N) : ∀ k, sumLen (gs.take k) ≤ gs.length * N := by
  intro k
  have key : ∀ xs : List (List Int), (∀ g ∈ xs, g.length ≤ N) → sumLen xs ≤ xs.length * N := by
    intro xs
    induction xs with
    | nil => intro _; simp [sumLen]
    | cons x xs ih =>
      intro h
      have h1 := ih fun g hg => h g (List.mem_cons_of_mem _ hg)
      have h2 := h x (List.mem_cons_self ..)
      unfold sumLen at *
      rw [List.map_cons, List.sum_cons, List.length_cons, Nat.succ_mul]
      omega
  have h1 := key (gs.take k) fun g hg => h g (List.mem_of_mem_take hg)
  have h2 : (gs.take k).length * N ≤ gs.length * N := Nat.mul_le_mul_right _ (by simp; omega)
  omega

set_option maxHeartbeats 8000000 in
theorem law_groups (v : Value) (l : List Cand) (w : World) (hl : SlC w v l) (hm : l.length ≤ 9223372036854775807) (hwf : wfs (feats l)) :
    Calls Try.prog 6 #[v] w (RetV w (.bool true)) := by
  have hl0 := hl
  obtain ⟨A, c, rfl, hc, hR0⟩ := hl0
  have k0 : Below w.heap.size w w := Below.refl _ _
  by_cases q0 : l.length ≤ 60
  · have cK := k_clusters hl (by omega) hwf
    obtain ⟨gs, hgs⟩ : ∃ gs, cls l = gs := ⟨_, rfl⟩
    rw [show clS (Ed l) (setL (feats l)) = gs from hgs] at cK
    have hok : GrpOk gs := hgs ▸ cls_ok l
    have hlen : gs.length ≤ 60 := by rw [← hgs]; exact Nat.le_trans (cl_len l) q0
    have heach : ∀ g ∈ gs, g.length ≤ 60 := by rw [← hgs]; exact fun g hg => Nat.le_trans (cl_each l g hg) q0
    have HOK := Lib.hid hok
    have HEACH := Lib.hid heach
    have HSUM := Lib.hid (show sumLen gs = (setL (feats l)).length from hgs ▸ sum_cls l)
    have HFL : Hid ((setL (feats l)).length ≤ 60) := Lib.hid (by have := setL_len (feats l); rw [feats_len] at this; omega)
    have HPOS : Hid (∀ x ∈ feats l, 0 ≤ homeV gs x) := Lib.hid (fun x hx => hgs ▸ home_pos ((setL_mem _ x).2 hx))
    have HCONN : Hid (∀ x ∈ feats l, ∀ y ∈ feats l, Conn (Ed l) x y → homeV gs x = homeV gs y) := Lib.hid (fun x hx y hy h => hgs ▸ home_conn ((setL_mem _ x).2 hx) ((setL_mem _ y).2 hy) h)
    have HSL := Lib.hid (fun k => sumLen_le heach k)
    clear hok heach hgs hwf
    go_enter Try.func6, Try.ntmps6
    go_wp2_with fail
    refine cK.mono ?_
    rintro e w1 ⟨vg, rfl, hG, hb1⟩
    have hl1 := hl.below hb1
    have hR := hR0.below hb1
    have hG0 := hG
    obtain ⟨G, gc, _, rfl, _, _, _⟩ := hG0
    clear cK hR0 hl
    go_wp2_with fail
    go_loopw [4, 5] (fun t i wr => ∃ k : Nat, k ≤ gs.length ∧ i = .int .i64 k ∧ t = .int .i64 (sumLen (gs.take k)) ∧ Below w1.heap.size w1 wr) (fun _ i _ => gs.length - (intOf i).toNat)
    case atStart => exact ⟨0, by omega, rfl, rfl, Below.refl _ _⟩
    case round =>
      obtain ⟨k, hk, rfl, rfl, hbw⟩ := hrel
      by_cases hlt : k < gs.length
      · obtain ⟨b, off, na, ca, rfl, hb, a0, hRa⟩ := GrpS.get hG hbw hlt
        obtain ⟨hAx, hpx⟩ := HOK.out.1 k hlt
        obtain ⟨b', off', rfl, hb', d0⟩ := RdI.get hRa (Below.refl _ _) hpx
        have hx60 : gs[k]!.length ≤ 1000 := by have := HEACH.out gs[k]! (by rw [getElem!_pos gs k hlt]; exact List.getElem_mem hlt); omega
        have HT := Lib.hid (sumLen_take hlt)
        have hsl : sumLen (gs.take k) ≤ 60 * 60 := by have := HSL.out k; have : gs.length * 60 ≤ 60 * 60 := Nat.mul_le_mul_right _ hlen; omega
        obtain ⟨x, hx⟩ : ∃ x, gs[k]! = x := ⟨_, rfl⟩
        rw [hx] at a0 hRa hx60 hAx hpx d0 HT
        have HX := Lib.hid hx
        clear hx
        obtain ⟨y, hy⟩ : ∃ y, x[0]! = y := ⟨_, rfl⟩
        rw [hy] at d0
        have HY := Lib.hid hy
        clear hy
        have hz4 : ¬ x = [] := by intro e; rw [e] at hpx; exact absurd hpx (by simp)
        have hz5 : decide (x = []) = false := decide_eq_false hz4
        have hz1 : ((x.length : Int) == 0) = false := by simp; omega
        have hz2 : decide ((x.length : Int) = 0) = false := by simp; omega
        have hlb : b < wr.drew.heap.size := Nat.lt_of_lt_of_le hb hbw.size
        have hlb' : b' < wr.drew.heap.size := hb'
        rw [Nat.add_zero] at d0
        have HA : Hid (∀ W, Below wr.drew.heap.size wr.drew W → W.cell? ⟨b, off + k, none⟩ = some (.slice (some ⟨b', off', none⟩) x.length ca)) := Lib.hid (fun W hh => (hh.cell (p := ⟨b, off + k, none⟩) hlb).trans a0)
        have HB : Hid (∀ W, Below wr.drew.heap.size wr.drew W → W.cell? ⟨b', off', none⟩ = some (.int .i64 y)) := Lib.hid (fun W hh => (hh.cell (p := ⟨b', off', none⟩) hlb').trans d0)
        have hRx : RdI wr.drew (some ⟨b', off', none⟩) x := hRa.below (Below.refl _ _).drew
        have hSd : Hid (∀ W, Below wr.drew.heap.size wr.drew W → Below w1.heap.size w1 W) := Lib.hid (fun W hh => hbw.drew.trans (hh.mono hbw.size))
        have HAx : Hid (ascB x = true) := Lib.hid hAx
        clear hRa d0 hb' hlb' hlb
        by_cases hk0 : k = 0
        · clear hbw
          have hgt : decide ((0 : Int) < (k : Int)) = false := by simp; omega
          have hgt2 : decide (0 < k) = false := by simp; omega
          have HK := Lib.hid hk0
          clear hk0
          go_wp2_with fail
          clear a0
          refine wp_region_held_drew (S := fun W : World => Below wr.drew.heap.size wr.drew W) (by kernel_rfl) (Below.refl _ _) (fun hHeld => ?_)
          clear hHeld
          generalize wr.drew = w0 at *
          have hS0 : (fun W : World => Below w0.heap.size w0 W) w0 := Below.refl _ _
          have hAx := HAx.out
          refine wpAnyH_take (i := 0) (oi := ⟨some 28, _, _, _, _, _⟩) (v := ?vf1) rfl (by kernel_rfl) (by kernel_rfl) (by kernel_rfl) (fun _ _ _ h => h) (Or.inl ⟨by kernel_rfl, ?hyf1⟩) (by assumption) ?restf1
          case hyf1 => (intro W hSw; (try dsimp only at hSw); go_simp; try with_reducible rfl)
          case' restf1 => try simp only [Act.put, List.setIfInBounds_toArray, List.set_cons_zero, List.set_cons_succ]
          refine wpAnyH_take (i := 1) (oi := ⟨some 29, _, _, _, _, _⟩) (v := ?vf2) rfl (by kernel_rfl) (by kernel_rfl) (by kernel_rfl) (fun _ _ _ h => h) (Or.inl ⟨by kernel_rfl, ?hyf2⟩) (by assumption) ?restf2
          case hyf2 => (intro W hSw; (try dsimp only at hSw); go_simp; try with_reducible rfl)
          case' restf2 => try simp only [Act.put, List.setIfInBounds_toArray, List.set_cons_zero, List.set_cons_succ]
          refine wpAnyH_take (i := 2) (oi := ⟨some 30, _, _, _, _, _⟩) (v := ?vf3) rfl (by kernel_rfl) (by kernel_rfl) (by kernel_rfl) (fun _ _ _ h => h) (Or.inl ⟨by kernel_rfl, ?hyf3⟩) (by assumption) ?restf3
          case hyf3 => (intro W hSw; (try dsimp only at hSw); go_simp; try with_reducible rfl)
          case' restf3 => try simp only [Act.put, List.setIfInBounds_toArray, List.set_cons_zero, List.set_cons_succ]
          refine wpAnyH_take (i := 3) (oi := ⟨some 31, _, _, _, _, _⟩) (v := ?vf4) rfl (by kernel_rfl) (by kernel_rfl) (by kernel_rfl) (fun _ _ _ h => h) (Or.inl ⟨by kernel_rfl, ?hyf4⟩) (by assumption) ?restf4
          case hyf4 => (intro W hSw; have c0 := HA.out W hSw; clear hSw; (try dsimp only at hSw); go_simp; try with_reducible rfl)
          case' restf4 => try simp only [Act.put, List.setIfInBounds_toArray, List.set_cons_zero, List.set_cons_succ]
          refine wpAnyH_ready (rs := [4]) (by kernel_rfl) (by simp) ?_
          refine AllReadyH.cons (o := ⟨some 32, _, _, _, _, _⟩) rfl (fun K hK => ?_) AllReadyH.nil
          go_simp
          go_at_call 18
          refine (valid_true (c := ca) hx60 hRx hAx).mono ?_
          rintro e Wf1 ⟨rfl, hbWf1⟩
          replace hRx := hRx.below hbWf1
          have hSWf1 := hS0.trans (hbWf1.mono hS0.size)
          try clear hS0
          clear hbWf1
          go_wp2_with fail
          refine hK.out _ _ hSWf1 (fun hHeld => ?_)
          clear hK hHeld K
          try simp only [Act.put, List.setIfInBounds_toArray, List.set_cons_zero, List.set_cons_succ]
          refine wpAnyH_take (i := 5) (oi := ⟨some 33, _, _, _, _, _⟩) (v := ?vf5) rfl (by kernel_rfl) (by kernel_rfl) (by kernel_rfl) (fun _ _ _ h => h) (Or.inl ⟨by kernel_rfl, ?hyf5⟩) (by assumption) ?restf5
          case hyf5 => (intro W hSw; (try dsimp only at hSw); go_simp; try with_reducible rfl)
          case' restf5 => try simp only [Act.put, List.setIfInBounds_toArray, List.set_cons_zero, List.set_cons_succ]
          refine wpAnyH_take (i := 6) (oi := ⟨some 34, _, _, _, _, _⟩) (v := ?vf6) rfl (by kernel_rfl) (by kernel_rfl) (by kernel_rfl) (fun _ _ _ h => h) (Or.inl ⟨by kernel_rfl, ?hyf6⟩) (by assumption) ?restf6
          case hyf6 => (intro W hSw; (try dsimp only at hSw); go_simp; try with_reducible rfl)
          case' restf6 => try simp only [Act.put, List.setIfInBounds_toArray, List.set_cons_zero, List.set_cons_succ]
          refine wpAnyH_take (i := 7) (oi := ⟨some 35, _, _, _, _, _⟩) (v := ?vf7) rfl (by kernel_rfl) (by kernel_rfl) (by kernel_rfl) (fun _ _ _ h => h) (Or.inl ⟨by kernel_rfl, ?hyf7⟩) (by assumption) ?restf7
          case hyf7 => (intro W hSw; (try dsimp only at hSw); go_simp; try with_reducible rfl)
          case' restf7 => try simp only [Act.put, List.setIfInBounds_toArray, List.set_cons_zero, List.set_cons_succ]
          refine wpAnyH_take (i := 8) (oi := ⟨some 36, _, _, _, _, _⟩) (v := ?vf8) rfl (by kernel_rfl) (by kernel_rfl) (by kernel_rfl) (fun _ _ _ h => h) (Or.inl ⟨by kernel_rfl, ?hyf8⟩) (by assumption) ?restf8
          case hyf8 => (intro W hSw; (try dsimp only at hSw); go_simp; try with_reducible rfl)
          case' restf8 => try simp only [Act.put, List.setIfInBounds_toArray, List.set_cons_zero, List.set_cons_succ]
          refine wpAnyH_take (i := 9) (oi := ⟨some 37, _, _, _, _, _⟩) (v := ?vf9) rfl (by kernel_rfl) (by kernel_rfl) (by kernel_rfl) (fun _ _ _ h => h) (Or.inl ⟨by kernel_rfl, ?hyf9⟩) (by assumption) ?restf9
          case hyf9 => (intro W hSw; (try dsimp only at hSw); go_simp; try with_reducible rfl)
          case' restf9 => try simp only [Act.put, List.setIfInBounds_toArray, List.set_cons_zero, List.set_cons_succ]
          refine wpAnyH_take (i := 10) (oi := ⟨some 38, _, _, _, _, _⟩) (v := ?vf10) rfl (by kernel_rfl) (by kernel_rfl) (by kernel_rfl) (fun _ _ _ h => h) (Or.inl ⟨by kernel_rfl, ?hyf10⟩) (by assumption) ?restf10
          case hyf10 => (intro W hSw; have c0 := HA.out W hSw; clear hSw; (try dsimp only at hSw); go_simp; try with_reducible rfl)
          case' restf10 => try simp only [Act.put, List.setIfInBounds_toArray, List.set_cons_zero, List.set_cons_succ]
          refine wpAnyH_take (i := 11) (oi := ⟨some 39, _, _, _, _, _⟩) (v := ?vf11) rfl (by kernel_rfl) (by kernel_rfl) (by kernel_rfl) (fun _ _ _ h => h) (Or.inl ⟨by kernel_rfl, ?hyf11⟩) (by assumption) ?restf11
          case hyf11 => (intro W hSw; (try dsimp only at hSw); go_simp; try with_reducible rfl)
          case' restf11 => try simp only [Act.put, List.setIfInBounds_toArray, List.set_cons_zero, List.set_cons_succ]
          refine wpAnyH_take (i := 12) (oi := ⟨some 40, _, _, _, _, _⟩) (v := ?vf12) rfl (by kernel_rfl) (by kernel_rfl) (by kernel_rfl) (fun _ _ _ h => h) (Or.inl ⟨by kernel_rfl, ?hyf12⟩) (by assumption) ?restf12
          case hyf12 => (intro W hSw; (try dsimp only at hSw); go_simp; try with_reducible rfl)
          case' restf12 => try simp only [Act.put, List.setIfInBounds_toArray, List.set_cons_zero, List.set_cons_succ]
          refine wpAnyH_take (i := 13) (oi := ⟨some 41, _, _, _, _, _⟩) (v := ?vf13) rfl (by kernel_rfl) (by kernel_rfl) (by kernel_rfl) (fun _ _ _ h => h) (Or.inl ⟨by kernel_rfl, ?hyf13⟩) (by assumption) ?restf13
          case hyf13 => (intro W hSw; (try dsimp only at hSw); go_simp; try with_reducible rfl)
          case' restf13 => try simp only [Act.put, List.setIfInBounds_toArray, List.set_cons_zero, List.set_cons_succ]
          refine wpAnyH_take (i := 14) (oi := ⟨some 42, _, _, _, _, _⟩) (v := ?vf14) rfl (by kernel_rfl) (by kernel_rfl) (by kernel_rfl) (fun _ _ _ h => h) (Or.inl ⟨by kernel_rfl, ?hyf14⟩) (by assumption) ?restf14
          case hyf14 => (intro W hSw; (try dsimp only at hSw); go_simp; try with_reducible rfl)
          case' restf14 => try simp only [Act.put, List.setIfInBounds_toArray, List.set_cons_zero, List.set_cons_succ]
          refine wpAnyH_take (i := 15) (oi := ⟨some 43, _, _, _, _, _⟩) (v := ?vf15) rfl (by kernel_rfl) (by kernel_rfl) (by kernel_rfl) (fun _ _ _ h => h) (Or.inl ⟨by kernel_rfl, ?hyf15⟩) (by assumption) ?restf15
          case hyf15 => (intro W hSw; (try dsimp only at hSw); go_simp; try with_reducible rfl)
          case' restf15 => try simp only [Act.put, List.setIfInBounds_toArray, List.set_cons_zero, List.set_cons_succ]
          refine wpAnyH_take (i := 16) (oi := ⟨some 44, _, _, _, _, _⟩) (v := ?vf16) rfl (by kernel_rfl) (by kernel_rfl) (by kernel_rfl) (fun _ _ _ h => h) (Or.inl ⟨by kernel_rfl, ?hyf16⟩) (by assumption) ?restf16
          case hyf16 => (intro W hSw; (try dsimp only at hSw); go_simp; try with_reducible rfl)
          case' restf16 => try simp only [Act.put, List.setIfInBounds_toArray, List.set_cons_zero, List.set_cons_succ]
          refine wpAnyH_take (i := 17) (oi := ⟨some 45, _, _, _, _, _⟩) (v := ?vf17) rfl (by kernel_rfl) (by kernel_rfl) (by kernel_rfl) (fun _ _ _ h => h) (Or.inl ⟨by kernel_rfl, ?hyf17⟩) (by assumption) ?restf17
          case hyf17 => (intro W hSw; (try dsimp only at hSw); go_simp; try with_reducible rfl)
          case' restf17 => try simp only [Act.put, List.setIfInBounds_toArray, List.set_cons_zero, List.set_cons_succ]
          refine wpAnyH_take (i := 18) (oi := ⟨some 46, _, _, _, _, _⟩) (v := undef) rfl (by kernel_rfl) (by kernel_rfl) (by kernel_rfl) (fun _ _ _ h => h) (Or.inr ⟨by kernel_rfl, rfl⟩) (by assumption) ?restf18
          case' restf18 => try simp only [Act.put, List.setIfInBounds_toArray, List.set_cons_zero, List.set_cons_succ]
          refine wpAnyH_take (i := 19) (oi := ⟨some 47, _, _, _, _, _⟩) (v := undef) rfl (by kernel_rfl) (by kernel_rfl) (by kernel_rfl) (fun _ _ _ h => h) (Or.inr ⟨by kernel_rfl, rfl⟩) (by assumption) ?restf19
          case' restf19 => try simp only [Act.put, List.setIfInBounds_toArray, List.set_cons_zero, List.set_cons_succ]
          refine wpAnyH_take (i := 20) (oi := ⟨some 48, _, _, _, _, _⟩) (v := undef) rfl (by kernel_rfl) (by kernel_rfl) (by kernel_rfl) (fun _ _ _ h => h) (Or.inr ⟨by kernel_rfl, rfl⟩) (by assumption) ?restf20
          case' restf20 => try simp only [Act.put, List.setIfInBounds_toArray, List.set_cons_zero, List.set_cons_succ]
          refine wpAnyH_take (i := 21) (oi := ⟨some 49, _, _, _, _, _⟩) (v := undef) rfl (by kernel_rfl) (by kernel_rfl) (by kernel_rfl) (fun _ _ _ h => h) (Or.inr ⟨by kernel_rfl, rfl⟩) (by assumption) ?restf21
          case' restf21 => try simp only [Act.put, List.setIfInBounds_toArray, List.set_cons_zero, List.set_cons_succ]
          refine wpAnyH_take (i := 22) (oi := ⟨some 50, _, _, _, _, _⟩) (v := undef) rfl (by kernel_rfl) (by kernel_rfl) (by kernel_rfl) (fun _ _ _ h => h) (Or.inr ⟨by kernel_rfl, rfl⟩) (by assumption) ?restf22
          case' restf22 => try simp only [Act.put, List.setIfInBounds_toArray, List.set_cons_zero, List.set_cons_succ]
          refine wpAnyH_take (i := 23) (oi := ⟨some 51, _, _, _, _, _⟩) (v := undef) rfl (by kernel_rfl) (by kernel_rfl) (by kernel_rfl) (fun _ _ _ h => h) (Or.inr ⟨by kernel_rfl, rfl⟩) (by assumption) ?restf23
          case' restf23 => try simp only [Act.put, List.setIfInBounds_toArray, List.set_cons_zero, List.set_cons_succ]
          refine wpAnyH_take (i := 24) (oi := ⟨some 52, _, _, _, _, _⟩) (v := undef) rfl (by kernel_rfl) (by kernel_rfl) (by kernel_rfl) (fun _ _ _ h => h) (Or.inr ⟨by kernel_rfl, rfl⟩) (by assumption) ?restf24
          case' restf24 => try simp only [Act.put, List.setIfInBounds_toArray, List.set_cons_zero, List.set_cons_succ]
          refine wpAnyH_take (i := 25) (oi := ⟨some 53, _, _, _, _, _⟩) (v := undef) rfl (by kernel_rfl) (by kernel_rfl) (by kernel_rfl) (fun _ _ _ h => h) (Or.inr ⟨by kernel_rfl, rfl⟩) (by assumption) ?restf25
          case' restf25 => try simp only [Act.put, List.setIfInBounds_toArray, List.set_cons_zero, List.set_cons_succ]
          refine wpAnyH_take (i := 26) (oi := ⟨some 54, _, _, _, _, _⟩) (v := undef) rfl (by kernel_rfl) (by kernel_rfl) (by kernel_rfl) (fun _ _ _ h => h) (Or.inr ⟨by kernel_rfl, rfl⟩) (by assumption) ?restf26
          case' restf26 => try simp only [Act.put, List.setIfInBounds_toArray, List.set_cons_zero, List.set_cons_succ]
          refine wpAnyH_take (i := 27) (oi := ⟨some 55, _, _, _, _, _⟩) (v := undef) rfl (by kernel_rfl) (by kernel_rfl) (by kernel_rfl) (fun _ _ _ h => h) (Or.inr ⟨by kernel_rfl, rfl⟩) (by assumption) ?restf27
          case' restf27 => try simp only [Act.put, List.setIfInBounds_toArray, List.set_cons_zero, List.set_cons_succ]
          refine wpAnyH_take (i := 28) (oi := ⟨some 56, _, _, _, _, _⟩) (v := undef) rfl (by kernel_rfl) (by kernel_rfl) (by kernel_rfl) (fun _ _ _ h => h) (Or.inr ⟨by kernel_rfl, rfl⟩) (by assumption) ?restf28
          case' restf28 => try simp only [Act.put, List.setIfInBounds_toArray, List.set_cons_zero, List.set_cons_succ]
          refine wpAnyH_take (i := 29) (oi := ⟨some 57, _, _, _, _, _⟩) (v := undef) rfl (by kernel_rfl) (by kernel_rfl) (by kernel_rfl) (fun _ _ _ h => h) (Or.inr ⟨by kernel_rfl, rfl⟩) (by assumption) ?restf29
          case' restf29 => try simp only [Act.put, List.setIfInBounds_toArray, List.set_cons_zero, List.set_cons_succ]
          refine wpAnyH_take (i := 30) (oi := ⟨some 58, _, _, _, _, _⟩) (v := undef) rfl (by kernel_rfl) (by kernel_rfl) (by kernel_rfl) (fun _ _ _ h => h) (Or.inr ⟨by kernel_rfl, rfl⟩) (by assumption) ?restf30
          case' restf30 => try simp only [Act.put, List.setIfInBounds_toArray, List.set_cons_zero, List.set_cons_succ]
          refine wpAnyH_take (i := 31) (oi := ⟨some 59, _, _, _, _, _⟩) (v := undef) rfl (by kernel_rfl) (by kernel_rfl) (by kernel_rfl) (fun _ _ _ h => h) (Or.inr ⟨by kernel_rfl, rfl⟩) (by assumption) ?restf31
          case' restf31 => try simp only [Act.put, List.setIfInBounds_toArray, List.set_cons_zero, List.set_cons_succ]
          refine wpAnyH_take (i := 32) (oi := ⟨some 60, _, _, _, _, _⟩) (v := ?vf32) rfl (by kernel_rfl) (by kernel_rfl) (by kernel_rfl) (fun _ _ _ h => h) (Or.inl ⟨by kernel_rfl, ?hyf32⟩) (by assumption) ?restf32
          case hyf32 => (intro W hSw; (try dsimp only at hSw); go_simp; try with_reducible rfl)
          case' restf32 => try simp only [Act.put, List.setIfInBounds_toArray, List.set_cons_zero, List.set_cons_succ]
          refine wpAnyH_take (i := 33) (oi := ⟨some 61, _, _, _, _, _⟩) (v := ?vf33) rfl (by kernel_rfl) (by kernel_rfl) (by kernel_rfl) (fun _ _ _ h => h) (Or.inl ⟨by kernel_rfl, ?hyf33⟩) (by assumption) ?restf33
          case hyf33 => (intro W hSw; (try dsimp only at hSw); go_simp; try with_reducible rfl)
          case' restf33 => try simp only [Act.put, List.setIfInBounds_toArray, List.set_cons_zero, List.set_cons_succ]
          refine wpAnyH_done (by kernel_rfl) ?_ _
          have hS9 := hSWf1
          have hbw2 := hSd.out _ hS9
          go_wp2
          go_roundw
          case rel => exact ⟨k + 1, by omega, by go_num, by rw [HT.out]; go_num, hbw2⟩
          case measure => simp [intOf]; omega
        · obtain ⟨j, hj⟩ : ∃ j, k = j + 1 := ⟨k - 1, by omega⟩
          obtain ⟨bp, offp, np, cp, he, hbp, p0, hRp⟩ := GrpS.get hG hbw (show j < gs.length by omega)
          injection he with he
          injection he with e1 e2
          subst e1; subst e2
          obtain ⟨_, hpp⟩ := HOK.out.1 j (by omega)
          obtain ⟨b'', off'', rfl, hb'', q1⟩ := RdI.get hRp (Below.refl _ _) hpp
          have hord := HOK.out.2 j (by omega)
          rw [← hj, HX.out, HY.out] at hord
          rw [Nat.add_zero] at q1
          obtain ⟨z, hz⟩ : ∃ z, gs[j]![0]! = z := ⟨_, rfl⟩
          rw [hz] at hord q1
          obtain ⟨n', hn'⟩ : ∃ n', gs[j]!.length = n' := ⟨_, rfl⟩
          rw [hn'] at p0 hpp
          clear hz hn' hRp
          have hlbp : b < wr.drew.heap.size := Nat.lt_of_lt_of_le hbp hbw.size
          have hlb'' : b'' < wr.drew.heap.size := hb''
          have HP : Hid (∀ W, Below wr.drew.heap.size wr.drew W → W.cell? ⟨b, off + j, none⟩ = some (.slice (some ⟨b'', off'', none⟩) n' cp)) := Lib.hid (fun W hh => (hh.cell (p := ⟨b, off + j, none⟩) hlbp).trans p0)
          have HQ : Hid (∀ W, Below wr.drew.heap.size wr.drew W → W.cell? ⟨b'', off'', none⟩ = some (.int .i64 z)) := Lib.hid (fun W hh => (hh.cell (p := ⟨b'', off'', none⟩) hlb'').trans q1)
          have hge : decide (y ≤ z) = false := by simp; omega
          have hjl : (j : Int) < (gs.length : Int) := by omega
          have hw1 : IntKind.i64.wrap ((k : Int) - 1) = (j : Int) := by rw [show ((k : Int) - 1) = (j : Int) by omega]; exact IntWalk.i64_in _ (by omega)
          have hgt : decide ((0 : Int) < (k : Int)) = true := by simp; omega
          have hgt2 : decide (0 < k) = true := by simp; omega
          have HK := Lib.hid hj
          have HW1 := Lib.hid hw1
          clear p0 q1 hlbp hlb'' hbp hb'' hw1 hbw hord hj hk0
          go_wp2_with fail
          clear a0
          refine wp_region_held_drew (S := fun W : World => Below wr.drew.heap.size wr.drew W) (by kernel_rfl) (Below.refl _ _) (fun hHeld => ?_)
          clear hHeld
          generalize wr.drew = w0 at *
          have hS0 : (fun W : World => Below w0.heap.size w0 W) w0 := Below.refl _ _
          have hAx := HAx.out
          have hw1 := HW1.out
          refine wpAnyH_take (i := 0) (oi := ⟨some 28, _, _, _, _, _⟩) (v := ?vn1) rfl (by kernel_rfl) (by kernel_rfl) (by kernel_rfl) (fun _ _ _ h => h) (Or.inl ⟨by kernel_rfl, ?hyn1⟩) (by assumption) ?restn1
          case hyn1 => (intro W hSw; (try dsimp only at hSw); go_simp; try with_reducible rfl)
          case' restn1 => try simp only [Act.put, List.setIfInBounds_toArray, List.set_cons_zero, List.set_cons_succ]
          refine wpAnyH_take (i := 1) (oi := ⟨some 29, _, _, _, _, _⟩) (v := ?vn2) rfl (by kernel_rfl) (by kernel_rfl) (by kernel_rfl) (fun _ _ _ h => h) (Or.inl ⟨by kernel_rfl, ?hyn2⟩) (by assumption) ?restn2
          case hyn2 => (intro W hSw; (try dsimp only at hSw); go_simp; try with_reducible rfl)
          case' restn2 => try simp only [Act.put, List.setIfInBounds_toArray, List.set_cons_zero, List.set_cons_succ]
          refine wpAnyH_take (i := 2) (oi := ⟨some 30, _, _, _, _, _⟩) (v := ?vn3) rfl (by kernel_rfl) (by kernel_rfl) (by kernel_rfl) (fun _ _ _ h => h) (Or.inl ⟨by kernel_rfl, ?hyn3⟩) (by assumption) ?restn3
          case hyn3 => (intro W hSw; (try dsimp only at hSw); go_simp; try with_reducible rfl)
          case' restn3 => try simp only [Act.put, List.setIfInBounds_toArray, List.set_cons_zero, List.set_cons_succ]
          refine wpAnyH_take (i := 3) (oi := ⟨some 31, _, _, _, _, _⟩) (v := ?vn4) rfl (by kernel_rfl) (by kernel_rfl) (by kernel_rfl) (fun _ _ _ h => h) (Or.inl ⟨by kernel_rfl, ?hyn4⟩) (by assumption) ?restn4
          case hyn4 => (intro W hSw; have c0 := HA.out W hSw; clear hSw; (try dsimp only at hSw); go_simp; try with_reducible rfl)
          case' restn4 => try simp only [Act.put, List.setIfInBounds_toArray, List.set_cons_zero, List.set_cons_succ]
          refine wpAnyH_ready (rs := [4]) (by kernel_rfl) (by simp) ?_
          refine AllReadyH.cons (o := ⟨some 32, _, _, _, _, _⟩) rfl (fun K hK => ?_) AllReadyH.nil
          go_simp
          go_at_call 18
          refine (valid_true (c := ca) hx60 hRx hAx).mono ?_
          rintro e Wn1 ⟨rfl, hbWn1⟩
          replace hRx := hRx.below hbWn1
          have hSWn1 := hS0.trans (hbWn1.mono hS0.size)
          try clear hS0
          clear hbWn1
          go_wp2_with fail
          refine hK.out _ _ hSWn1 (fun hHeld => ?_)
          clear hK hHeld K
          try simp only [Act.put, List.setIfInBounds_toArray, List.set_cons_zero, List.set_cons_succ]
          refine wpAnyH_take (i := 5) (oi := ⟨some 33, _, _, _, _, _⟩) (v := ?vn5) rfl (by kernel_rfl) (by kernel_rfl) (by kernel_rfl) (fun _ _ _ h => h) (Or.inl ⟨by kernel_rfl, ?hyn5⟩) (by assumption) ?restn5
          case hyn5 => (intro W hSw; (try dsimp only at hSw); go_simp; try with_reducible rfl)
          case' restn5 => try simp only [Act.put, List.setIfInBounds_toArray, List.set_cons_zero, List.set_cons_succ]
          refine wpAnyH_take (i := 6) (oi := ⟨some 34, _, _, _, _, _⟩) (v := ?vn6) rfl (by kernel_rfl) (by kernel_rfl) (by kernel_rfl) (fun _ _ _ h => h) (Or.inl ⟨by kernel_rfl, ?hyn6⟩) (by assumption) ?restn6
          case hyn6 => (intro W hSw; (try dsimp only at hSw); go_simp; try with_reducible rfl)
          case' restn6 => try simp only [Act.put, List.setIfInBounds_toArray, List.set_cons_zero, List.set_cons_succ]
          refine wpAnyH_take (i := 7) (oi := ⟨some 35, _, _, _, _, _⟩) (v := ?vn7) rfl (by kernel_rfl) (by kernel_rfl) (by kernel_rfl) (fun _ _ _ h => h) (Or.inl ⟨by kernel_rfl, ?hyn7⟩) (by assumption) ?restn7
          case hyn7 => (intro W hSw; (try dsimp only at hSw); go_simp; try with_reducible rfl)
          case' restn7 => try simp only [Act.put, List.setIfInBounds_toArray, List.set_cons_zero, List.set_cons_succ]
          refine wpAnyH_take (i := 8) (oi := ⟨some 36, _, _, _, _, _⟩) (v := ?vn8) rfl (by kernel_rfl) (by kernel_rfl) (by kernel_rfl) (fun _ _ _ h => h) (Or.inl ⟨by kernel_rfl, ?hyn8⟩) (by assumption) ?restn8
          case hyn8 => (intro W hSw; (try dsimp only at hSw); go_simp; try with_reducible rfl)
          case' restn8 => try simp only [Act.put, List.setIfInBounds_toArray, List.set_cons_zero, List.set_cons_succ]
          refine wpAnyH_take (i := 9) (oi := ⟨some 37, _, _, _, _, _⟩) (v := ?vn9) rfl (by kernel_rfl) (by kernel_rfl) (by kernel_rfl) (fun _ _ _ h => h) (Or.inl ⟨by kernel_rfl, ?hyn9⟩) (by assumption) ?restn9
          case hyn9 => (intro W hSw; (try dsimp only at hSw); go_simp; try with_reducible rfl)
          case' restn9 => try simp only [Act.put, List.setIfInBounds_toArray, List.set_cons_zero, List.set_cons_succ]
          refine wpAnyH_take (i := 10) (oi := ⟨some 38, _, _, _, _, _⟩) (v := ?vn10) rfl (by kernel_rfl) (by kernel_rfl) (by kernel_rfl) (fun _ _ _ h => h) (Or.inl ⟨by kernel_rfl, ?hyn10⟩) (by assumption) ?restn10
          case hyn10 => (intro W hSw; have c0 := HA.out W hSw; clear hSw; (try dsimp only at hSw); go_simp; try with_reducible rfl)
          case' restn10 => try simp only [Act.put, List.setIfInBounds_toArray, List.set_cons_zero, List.set_cons_succ]
          refine wpAnyH_take (i := 11) (oi := ⟨some 39, _, _, _, _, _⟩) (v := ?vn11) rfl (by kernel_rfl) (by kernel_rfl) (by kernel_rfl) (fun _ _ _ h => h) (Or.inl ⟨by kernel_rfl, ?hyn11⟩) (by assumption) ?restn11
          case hyn11 => (intro W hSw; (try dsimp only at hSw); go_simp; try with_reducible rfl)
          case' restn11 => try simp only [Act.put, List.setIfInBounds_toArray, List.set_cons_zero, List.set_cons_succ]
          refine wpAnyH_take (i := 12) (oi := ⟨some 40, _, _, _, _, _⟩) (v := ?vn12) rfl (by kernel_rfl) (by kernel_rfl) (by kernel_rfl) (fun _ _ _ h => h) (Or.inl ⟨by kernel_rfl, ?hyn12⟩) (by assumption) ?restn12
          case hyn12 => (intro W hSw; (try dsimp only at hSw); go_simp; try with_reducible rfl)
          case' restn12 => try simp only [Act.put, List.setIfInBounds_toArray, List.set_cons_zero, List.set_cons_succ]
          refine wpAnyH_take (i := 13) (oi := ⟨some 41, _, _, _, _, _⟩) (v := ?vn13) rfl (by kernel_rfl) (by kernel_rfl) (by kernel_rfl) (fun _ _ _ h => h) (Or.inl ⟨by kernel_rfl, ?hyn13⟩) (by assumption) ?restn13
          case hyn13 => (intro W hSw; (try dsimp only at hSw); go_simp; try with_reducible rfl)
          case' restn13 => try simp only [Act.put, List.setIfInBounds_toArray, List.set_cons_zero, List.set_cons_succ]
          refine wpAnyH_take (i := 14) (oi := ⟨some 42, _, _, _, _, _⟩) (v := ?vn14) rfl (by kernel_rfl) (by kernel_rfl) (by kernel_rfl) (fun _ _ _ h => h) (Or.inl ⟨by kernel_rfl, ?hyn14⟩) (by assumption) ?restn14
          case hyn14 => (intro W hSw; (try dsimp only at hSw); go_simp; try with_reducible rfl)
          case' restn14 => try simp only [Act.put, List.setIfInBounds_toArray, List.set_cons_zero, List.set_cons_succ]
          refine wpAnyH_take (i := 15) (oi := ⟨some 43, _, _, _, _, _⟩) (v := ?vn15) rfl (by kernel_rfl) (by kernel_rfl) (by kernel_rfl) (fun _ _ _ h => h) (Or.inl ⟨by kernel_rfl, ?hyn15⟩) (by assumption) ?restn15
          case hyn15 => (intro W hSw; (try dsimp only at hSw); go_simp; try with_reducible rfl)
          case' restn15 => try simp only [Act.put, List.setIfInBounds_toArray, List.set_cons_zero, List.set_cons_succ]
          refine wpAnyH_take (i := 16) (oi := ⟨some 44, _, _, _, _, _⟩) (v := ?vn16) rfl (by kernel_rfl) (by kernel_rfl) (by kernel_rfl) (fun _ _ _ h => h) (Or.inl ⟨by kernel_rfl, ?hyn16⟩) (by assumption) ?restn16
          case hyn16 => (intro W hSw; (try dsimp only at hSw); go_simp; try with_reducible rfl)
          case' restn16 => try simp only [Act.put, List.setIfInBounds_toArray, List.set_cons_zero, List.set_cons_succ]
          refine wpAnyH_take (i := 17) (oi := ⟨some 45, _, _, _, _, _⟩) (v := ?vn17) rfl (by kernel_rfl) (by kernel_rfl) (by kernel_rfl) (fun _ _ _ h => h) (Or.inl ⟨by kernel_rfl, ?hyn17⟩) (by assumption) ?restn17
          case hyn17 => (intro W hSw; (try dsimp only at hSw); go_simp; try with_reducible rfl)
          case' restn17 => try simp only [Act.put, List.setIfInBounds_toArray, List.set_cons_zero, List.set_cons_succ]
          refine wpAnyH_take (i := 18) (oi := ⟨some 46, _, _, _, _, _⟩) (v := ?vn18) rfl (by kernel_rfl) (by kernel_rfl) (by kernel_rfl) (fun _ _ _ h => h) (Or.inl ⟨by kernel_rfl, ?hyn18⟩) (by assumption) ?restn18
          case hyn18 => (intro W hSw; (try dsimp only at hSw); go_simp; try with_reducible rfl)
          case' restn18 => try simp only [Act.put, List.setIfInBounds_toArray, List.set_cons_zero, List.set_cons_succ]
          refine wpAnyH_take (i := 19) (oi := ⟨some 47, _, _, _, _, _⟩) (v := ?vn19) rfl (by kernel_rfl) (by kernel_rfl) (by kernel_rfl) (fun _ _ _ h => h) (Or.inl ⟨by kernel_rfl, ?hyn19⟩) (by assumption) ?restn19
          case hyn19 => (intro W hSw; (try dsimp only at hSw); go_simp; try with_reducible rfl)
          case' restn19 => try simp only [Act.put, List.setIfInBounds_toArray, List.set_cons_zero, List.set_cons_succ]
          refine wpAnyH_take (i := 20) (oi := ⟨some 48, _, _, _, _, _⟩) (v := ?vn20) rfl (by kernel_rfl) (by kernel_rfl) (by kernel_rfl) (fun _ _ _ h => h) (Or.inl ⟨by kernel_rfl, ?hyn20⟩) (by assumption) ?restn20
          case hyn20 => (intro W hSw; (try dsimp only at hSw); go_simp; try with_reducible rfl)
          case' restn20 => try simp only [Act.put, List.setIfInBounds_toArray, List.set_cons_zero, List.set_cons_succ]
          refine wpAnyH_take (i := 21) (oi := ⟨some 49, _, _, _, _, _⟩) (v := ?vn21) rfl (by kernel_rfl) (by kernel_rfl) (by kernel_rfl) (fun _ _ _ h => h) (Or.inl ⟨by kernel_rfl, ?hyn21⟩) (by assumption) ?restn21
          case hyn21 => (intro W hSw; (try dsimp only at hSw); go_simp; try with_reducible rfl)
          case' restn21 => try simp only [Act.put, List.setIfInBounds_toArray, List.set_cons_zero, List.set_cons_succ]
          refine wpAnyH_take (i := 22) (oi := ⟨some 50, _, _, _, _, _⟩) (v := ?vn22) rfl (by kernel_rfl) (by kernel_rfl) (by kernel_rfl) (fun _ _ _ h => h) (Or.inl ⟨by kernel_rfl, ?hyn22⟩) (by assumption) ?restn22
          case hyn22 => (intro W hSw; have c0 := HP.out W hSw; clear hSw; (try dsimp only at hSw); go_simp; try with_reducible rfl)
          case' restn22 => try simp only [Act.put, List.setIfInBounds_toArray, List.set_cons_zero, List.set_cons_succ]
          refine wpAnyH_take (i := 23) (oi := ⟨some 51, _, _, _, _, _⟩) (v := ?vn23) rfl (by kernel_rfl) (by kernel_rfl) (by kernel_rfl) (fun _ _ _ h => h) (Or.inl ⟨by kernel_rfl, ?hyn23⟩) (by assumption) ?restn23
          case hyn23 => (intro W hSw; (try dsimp only at hSw); go_simp; try with_reducible rfl)
          case' restn23 => try simp only [Act.put, List.setIfInBounds_toArray, List.set_cons_zero, List.set_cons_succ]
          refine wpAnyH_take (i := 24) (oi := ⟨some 52, _, _, _, _, _⟩) (v := ?vn24) rfl (by kernel_rfl) (by kernel_rfl) (by kernel_rfl) (fun _ _ _ h => h) (Or.inl ⟨by kernel_rfl, ?hyn24⟩) (by assumption) ?restn24
          case hyn24 => (intro W hSw; have c0 := HQ.out W hSw; clear hSw; (try dsimp only at hSw); go_simp; try with_reducible rfl)
          case' restn24 => try simp only [Act.put, List.setIfInBounds_toArray, List.set_cons_zero, List.set_cons_succ]
          refine wpAnyH_take (i := 25) (oi := ⟨some 53, _, _, _, _, _⟩) (v := ?vn25) rfl (by kernel_rfl) (by kernel_rfl) (by kernel_rfl) (fun _ _ _ h => h) (Or.inl ⟨by kernel_rfl, ?hyn25⟩) (by assumption) ?restn25
          case hyn25 => (intro W hSw; (try dsimp only at hSw); go_simp; try with_reducible rfl)
          case' restn25 => try simp only [Act.put, List.setIfInBounds_toArray, List.set_cons_zero, List.set_cons_succ]
          refine wpAnyH_take (i := 26) (oi := ⟨some 54, _, _, _, _, _⟩) (v := ?vn26) rfl (by kernel_rfl) (by kernel_rfl) (by kernel_rfl) (fun _ _ _ h => h) (Or.inl ⟨by kernel_rfl, ?hyn26⟩) (by assumption) ?restn26
          case hyn26 => (intro W hSw; (try dsimp only at hSw); go_simp; try with_reducible rfl)
          case' restn26 => try simp only [Act.put, List.setIfInBounds_toArray, List.set_cons_zero, List.set_cons_succ]
          refine wpAnyH_take (i := 27) (oi := ⟨some 55, _, _, _, _, _⟩) (v := ?vn27) rfl (by kernel_rfl) (by kernel_rfl) (by kernel_rfl) (fun _ _ _ h => h) (Or.inl ⟨by kernel_rfl, ?hyn27⟩) (by assumption) ?restn27
          case hyn27 => (intro W hSw; (try dsimp only at hSw); go_simp; try with_reducible rfl)
          case' restn27 => try simp only [Act.put, List.setIfInBounds_toArray, List.set_cons_zero, List.set_cons_succ]
          refine wpAnyH_take (i := 28) (oi := ⟨some 56, _, _, _, _, _⟩) (v := ?vn28) rfl (by kernel_rfl) (by kernel_rfl) (by kernel_rfl) (fun _ _ _ h => h) (Or.inl ⟨by kernel_rfl, ?hyn28⟩) (by assumption) ?restn28
          case hyn28 => (intro W hSw; have c0 := HA.out W hSw; clear hSw; (try dsimp only at hSw); go_simp; try with_reducible rfl)
          case' restn28 => try simp only [Act.put, List.setIfInBounds_toArray, List.set_cons_zero, List.set_cons_succ]
          refine wpAnyH_take (i := 29) (oi := ⟨some 57, _, _, _, _, _⟩) (v := ?vn29) rfl (by kernel_rfl) (by kernel_rfl) (by kernel_rfl) (fun _ _ _ h => h) (Or.inl ⟨by kernel_rfl, ?hyn29⟩) (by assumption) ?restn29
          case hyn29 => (intro W hSw; (try dsimp only at hSw); go_simp; try with_reducible rfl)
          case' restn29 => try simp only [Act.put, List.setIfInBounds_toArray, List.set_cons_zero, List.set_cons_succ]
          refine wpAnyH_take (i := 30) (oi := ⟨some 58, _, _, _, _, _⟩) (v := ?vn30) rfl (by kernel_rfl) (by kernel_rfl) (by kernel_rfl) (fun _ _ _ h => h) (Or.inl ⟨by kernel_rfl, ?hyn30⟩) (by assumption) ?restn30
          case hyn30 => (intro W hSw; have c0 := HB.out W hSw; clear hSw; (try dsimp only at hSw); go_simp; try with_reducible rfl)
          case' restn30 => try simp only [Act.put, List.setIfInBounds_toArray, List.set_cons_zero, List.set_cons_succ]
          refine wpAnyH_take (i := 31) (oi := ⟨some 59, _, _, _, _, _⟩) (v := ?vn31) rfl (by kernel_rfl) (by kernel_rfl) (by kernel_rfl) (fun _ _ _ h => h) (Or.inl ⟨by kernel_rfl, ?hyn31⟩) (by assumption) ?restn31
          case hyn31 => (intro W hSw; (try dsimp only at hSw); go_simp; try with_reducible rfl)
          case' restn31 => try simp only [Act.put, List.setIfInBounds_toArray, List.set_cons_zero, List.set_cons_succ]
          refine wpAnyH_take (i := 32) (oi := ⟨some 60, _, _, _, _, _⟩) (v := ?vn32) rfl (by kernel_rfl) (by kernel_rfl) (by kernel_rfl) (fun _ _ _ h => h) (Or.inl ⟨by kernel_rfl, ?hyn32⟩) (by assumption) ?restn32
          case hyn32 => (intro W hSw; (try dsimp only at hSw); go_simp; try with_reducible rfl)
          case' restn32 => try simp only [Act.put, List.setIfInBounds_toArray, List.set_cons_zero, List.set_cons_succ]
          refine wpAnyH_take (i := 33) (oi := ⟨some 61, _, _, _, _, _⟩) (v := ?vn33) rfl (by kernel_rfl) (by kernel_rfl) (by kernel_rfl) (fun _ _ _ h => h) (Or.inl ⟨by kernel_rfl, ?hyn33⟩) (by assumption) ?restn33
          case hyn33 => (intro W hSw; (try dsimp only at hSw); go_simp; try with_reducible rfl)
          case' restn33 => try simp only [Act.put, List.setIfInBounds_toArray, List.set_cons_zero, List.set_cons_succ]
          refine wpAnyH_done (by kernel_rfl) ?_ _
          have hS9 := hSWn1
          have hbw2 := hSd.out _ hS9
          clear hw1 hge hgt hgt2
          go_wp2
          go_roundw
          case rel => exact ⟨k + 1, by omega, by go_num, by rw [HT.out]; go_num, hbw2⟩
          case measure => simp [intOf]; omega
      · obtain rfl : k = gs.length := by omega
        rw [List.take_length, HSUM.out]
        have hl2 := hl1.below hbw
        have hG2 := hG.below hbw
        have hR2 := hR.below hbw
        have hfl := HFL.out
        have kw := hb1.trans (hbw.mono hb1.size)
        clear hl1 hG hR hbw HSL HSUM HOK hlt hb1
        generalize wr = wa at *
        obtain ⟨N, hN⟩ : ∃ N, (setL (feats l)).length = N := ⟨_, rfl⟩
        rw [hN] at hfl ⊢
        have HN := Lib.hid hN
        clear hN
        go_wp2_with fail
        go_loopw [6] (fun i wr => ∃ k : Nat, k ≤ l.length ∧ i = .int .i64 k ∧ Below wa.heap.size wa wr) (fun i _ => l.length - (intOf i).toNat)
        case atStart => exact ⟨0, by omega, rfl, Below.refl _ _⟩
        case round =>
          obtain ⟨k, hk, rfl, hbz⟩ := hrel
          generalize wr = wz at *
          have hl3 := hl2.below hbz
          have hG3 := hG2.below hbz
          have hR3 := hR2.below hbz
          have kz := kw.trans (hbz.mono kw.size)
          clear hl2 hG2 hR2 kw
          by_cases hlt : k < l.length
          · obtain ⟨b, off, rfl, hb, c0, c1, c2, c3, c4, c5, c6, c7⟩ := RdC.get hR3 (Below.refl _ _) hlt
            obtain ⟨x, hx⟩ : ∃ x, l[k]! = x := ⟨_, rfl⟩
            have hxf : x.f ∈ feats l := hx ▸ feats_get hlt
            have hxp : x ∈ l := by rw [← hx, getElem!_pos l k hlt]; exact List.getElem_mem hlt
            rw [hx] at c0 c1 c2 c3 c4 c5 c6 c7
            have HX := Lib.hid hx
            clear hx
            have hp := HPOS.out x.f hxf
            obtain ⟨hv, hhv⟩ : ∃ hv, homeV gs x.f = hv := ⟨_, rfl⟩
            have cH := Lib.hid (home_any (.slice G gs.length gc) gs x.f wz (by omega) (fun g hg => by have := HEACH.out g hg; omega) hG3)
            rw [hhv] at hp cH
            have HV := Lib.hid hhv
            clear hhv
            have hneg : decide (hv < 0) = false := by simp; omega
            go_wp2_with fail
            refine cH.out.mono ?_
            rintro e w2 ⟨rfl, hb2⟩
            have HC : Hid (∀ W, Below wz.heap.size wz W → W.cell? ⟨b, off + k * 8, none⟩ = some (.int .i64 x.f) ∧ W.cell? ⟨b, off + k * 8 + 1, none⟩ = some (.int .i64 x.x0) ∧ W.cell? ⟨b, off + k * 8 + 2, none⟩ = some (.int .i64 x.y0) ∧ W.cell? ⟨b, off + k * 8 + 3, none⟩ = some (.int .i64 x.x1) ∧ W.cell? ⟨b, off + k * 8 + 4, none⟩ = some (.int .i64 x.y1) ∧ W.cell? ⟨b, off + k * 8 + 5, none⟩ = some (.int .i64 x.ax) ∧ W.cell? ⟨b, off + k * 8 + 6, none⟩ = some (.int .i64 x.ay) ∧ W.cell? ⟨b, off + k * 8 + 7, none⟩ = some (.int .i64 x.co)) := Lib.hid (fun W hh => ⟨(hh.cell (p := ⟨b, off + k * 8, none⟩) hb).trans c0, (hh.cell (p := ⟨b, off + k * 8 + 1, none⟩) hb).trans c1, (hh.cell (p := ⟨b, off + k * 8 + 2, none⟩) hb).trans c2, (hh.cell (p := ⟨b, off + k * 8 + 3, none⟩) hb).trans c3, (hh.cell (p := ⟨b, off + k * 8 + 4, none⟩) hb).trans c4, (hh.cell (p := ⟨b, off + k * 8 + 5, none⟩) hb).trans c5, (hh.cell (p := ⟨b, off + k * 8 + 6, none⟩) hb).trans c6, (hh.cell (p := ⟨b, off + k * 8 + 7, none⟩) hb).trans c7⟩)
            have hG4 := hG3.below hb2
            have hR4 := hR3.below hb2
            have hl4 := hl3.below hb2
            have hbs2 := hb2.size
            clear c0 c1 c2 c3 c4 c5 c6 c7 hG3 hR3 hl3 cH
            go_wp2_with fail
            go_loopw [8] (fun i wr => ∃ m : Nat, m ≤ l.length ∧ i = .int .i64 m ∧ Below w2.heap.size w2 wr) (fun i _ => l.length - (intOf i).toNat)
            case atStart => exact ⟨0, by omega, rfl, Below.refl _ _⟩
            case round =>
              obtain ⟨m, hm', rfl, hbr⟩ := hrel
              have hbzr := hb2.trans (hbr.mono hbs2)
              by_cases hlm : m < l.length
              · obtain ⟨_, d0, d1, d2, d3, d4, d5, d6, d7⟩ := RdC.cells hR4 hbr hlm
                obtain ⟨y, hy⟩ : ∃ y, l[m]! = y := ⟨_, rfl⟩
                have hyf : y.f ∈ feats l := hy ▸ feats_get hlm
                rw [hy] at d0 d1 d2 d3 d4 d5 d6 d7
                have HED : Hid (hitB x y = true → Conn (Ed l) x.f y.f) := Lib.hid (fun hh => .edge ⟨k, m, hlt, hlm, by rw [HX.out, hy]; exact hh, by rw [HX.out], by rw [hy]⟩ (.refl _))
                clear hy
                have hbw2 : b < wr.drew.heap.size := Nat.lt_of_lt_of_le hb hbzr.size
                have hbw3 : b < wz.heap.size := hb
                have HA : Hid (∀ W, Below wr.drew.heap.size wr.drew W → W.cell? ⟨b, off + k * 8, none⟩ = some (.int .i64 x.f) ∧ W.cell? ⟨b, off + k * 8 + 1, none⟩ = some (.int .i64 x.x0) ∧ W.cell? ⟨b, off + k * 8 + 2, none⟩ = some (.int .i64 x.y0) ∧ W.cell? ⟨b, off + k * 8 + 3, none⟩ = some (.int .i64 x.x1) ∧ W.cell? ⟨b, off + k * 8 + 4, none⟩ = some (.int .i64 x.y1) ∧ W.cell? ⟨b, off + k * 8 + 5, none⟩ = some (.int .i64 x.ax) ∧ W.cell? ⟨b, off + k * 8 + 6, none⟩ = some (.int .i64 x.ay) ∧ W.cell? ⟨b, off + k * 8 + 7, none⟩ = some (.int .i64 x.co)) := Lib.hid (fun W hh => HC.out W (hbzr.drew.trans (hh.mono hbzr.size)))
                have HB : Hid (∀ W, Below wr.drew.heap.size wr.drew W → W.cell? ⟨b, off + m * 8, none⟩ = some (.int .i64 y.f) ∧ W.cell? ⟨b, off + m * 8 + 1, none⟩ = some (.int .i64 y.x0) ∧ W.cell? ⟨b, off + m * 8 + 2, none⟩ = some (.int .i64 y.y0) ∧ W.cell? ⟨b, off + m * 8 + 3, none⟩ = some (.int .i64 y.x1) ∧ W.cell? ⟨b, off + m * 8 + 4, none⟩ = some (.int .i64 y.y1) ∧ W.cell? ⟨b, off + m * 8 + 5, none⟩ = some (.int .i64 y.ax) ∧ W.cell? ⟨b, off + m * 8 + 6, none⟩ = some (.int .i64 y.ay) ∧ W.cell? ⟨b, off + m * 8 + 7, none⟩ = some (.int .i64 y.co)) := Lib.hid (fun W hh => ⟨(hh.cell (p := ⟨b, off + m * 8, none⟩) hbw2).trans d0, (hh.cell (p := ⟨b, off + m * 8 + 1, none⟩) hbw2).trans d1, (hh.cell (p := ⟨b, off + m * 8 + 2, none⟩) hbw2).trans d2, (hh.cell (p := ⟨b, off + m * 8 + 3, none⟩) hbw2).trans d3, (hh.cell (p := ⟨b, off + m * 8 + 4, none⟩) hbw2).trans d4, (hh.cell (p := ⟨b, off + m * 8 + 5, none⟩) hbw2).trans d5, (hh.cell (p := ⟨b, off + m * 8 + 6, none⟩) hbw2).trans d6, (hh.cell (p := ⟨b, off + m * 8 + 7, none⟩) hbw2).trans d7⟩)
                have hSd : Hid (∀ W, Below wr.drew.heap.size wr.drew W → Below w2.heap.size w2 W) := Lib.hid (fun W hh => hbr.drew.trans (hh.mono hbr.size))
                have hGd : Hid (∀ W, Below wr.drew.heap.size wr.drew W → GrpS W (.slice G gs.length gc) gs) := Lib.hid (fun W hh => hG4.below (hSd.out W hh))
                clear d0 d1 d2 d3 d4 d5 d6 d7 hbzr hbr
                rcases hh : hitB x y with _ | _
                · go_wp2_with fail
                  refine wp_region_held_drew (S := fun W : World => Below wr.drew.heap.size wr.drew W) (by kernel_rfl) (Below.refl _ _) (fun hHeld => ?_)
                  clear hHeld
                  generalize wr.drew = w0 at *
                  have hS0 : (fun W : World => Below w0.heap.size w0 W) w0 := Below.refl _ _
                  refine wpAnyH_take (i := 0) (oi := ⟨some 83, _, _, _, _, _⟩) (v := ?vm1) rfl (by kernel_rfl) (by kernel_rfl) (by kernel_rfl) (fun _ _ _ h => h) (Or.inl ⟨by kernel_rfl, ?hym1⟩) (by assumption) ?restm1
                  case hym1 => (intro W hSw; (try dsimp only at hSw); go_simp; try with_reducible rfl)
                  case' restm1 => try simp only [Act.put, List.setIfInBounds_toArray, List.set_cons_zero, List.set_cons_succ]
                  refine wpAnyH_take (i := 1) (oi := ⟨some 84, _, _, _, _, _⟩) (v := ?vm2) rfl (by kernel_rfl) (by kernel_rfl) (by kernel_rfl) (fun _ _ _ h => h) (Or.inl ⟨by kernel_rfl, ?hym2⟩) (by assumption) ?restm2
                  case hym2 => (intro W hSw; (try dsimp only at hSw); go_simp; try with_reducible rfl)
                  case' restm2 => try simp only [Act.put, List.setIfInBounds_toArray, List.set_cons_zero, List.set_cons_succ]
                  refine wpAnyH_take (i := 2) (oi := ⟨some 85, _, _, _, _, _⟩) (v := ?vm3) rfl (by kernel_rfl) (by kernel_rfl) (by kernel_rfl) (fun _ _ _ h => h) (Or.inl ⟨by kernel_rfl, ?hym3⟩) (by assumption) ?restm3
                  case hym3 => (intro W hSw; (try dsimp only at hSw); go_simp; try with_reducible rfl)
                  case' restm3 => try simp only [Act.put, List.setIfInBounds_toArray, List.set_cons_zero, List.set_cons_succ]
                  refine wpAnyH_take (i := 3) (oi := ⟨some 86, _, _, _, _, _⟩) (v := ?vm4) rfl (by kernel_rfl) (by kernel_rfl) (by kernel_rfl) (fun _ _ _ h => h) (Or.inl ⟨by kernel_rfl, ?hym4⟩) (by assumption) ?restm4
                  case hym4 => (intro W hSw; obtain ⟨c0, c1, c2, c3, c4, c5, c6, c7⟩ := HA.out W hSw; clear hSw; (try dsimp only at hSw); go_simp; try with_reducible rfl)
                  case' restm4 => try simp only [Act.put, List.setIfInBounds_toArray, List.set_cons_zero, List.set_cons_succ]
                  refine wpAnyH_take (i := 4) (oi := ⟨some 87, _, _, _, _, _⟩) (v := ?vm5) rfl (by kernel_rfl) (by kernel_rfl) (by kernel_rfl) (fun _ _ _ h => h) (Or.inl ⟨by kernel_rfl, ?hym5⟩) (by assumption) ?restm5
                  case hym5 => (intro W hSw; (try dsimp only at hSw); go_simp; try with_reducible rfl)
                  case' restm5 => try simp only [Act.put, List.setIfInBounds_toArray, List.set_cons_zero, List.set_cons_succ]
                  refine wpAnyH_take (i := 5) (oi := ⟨some 88, _, _, _, _, _⟩) (v := ?vm6) rfl (by kernel_rfl) (by kernel_rfl) (by kernel_rfl) (fun _ _ _ h => h) (Or.inl ⟨by kernel_rfl, ?hym6⟩) (by assumption) ?restm6
                  case hym6 => (intro W hSw; (try dsimp only at hSw); go_simp; try with_reducible rfl)
                  case' restm6 => try simp only [Act.put, List.setIfInBounds_toArray, List.set_cons_zero, List.set_cons_succ]
                  refine wpAnyH_take (i := 6) (oi := ⟨some 89, _, _, _, _, _⟩) (v := ?vm7) rfl (by kernel_rfl) (by kernel_rfl) (by kernel_rfl) (fun _ _ _ h => h) (Or.inl ⟨by kernel_rfl, ?hym7⟩) (by assumption) ?restm7
                  case hym7 => (intro W hSw; (try dsimp only at hSw); go_simp; try with_reducible rfl)
                  case' restm7 => try simp only [Act.put, List.setIfInBounds_toArray, List.set_cons_zero, List.set_cons_succ]
                  refine wpAnyH_take (i := 7) (oi := ⟨some 90, _, _, _, _, _⟩) (v := ?vm8) rfl (by kernel_rfl) (by kernel_rfl) (by kernel_rfl) (fun _ _ _ h => h) (Or.inl ⟨by kernel_rfl, ?hym8⟩) (by assumption) ?restm8
                  case hym8 => (intro W hSw; obtain ⟨c0, c1, c2, c3, c4, c5, c6, c7⟩ := HB.out W hSw; clear hSw; (try dsimp only at hSw); go_simp; try with_reducible rfl)
                  case' restm8 => try simp only [Act.put, List.setIfInBounds_toArray, List.set_cons_zero, List.set_cons_succ]
                  refine wpAnyH_ready (rs := [8]) (by kernel_rfl) (by simp) ?_
                  refine AllReadyH.cons (o := ⟨some 91, _, _, _, _, _⟩) rfl (fun K hK => ?_) AllReadyH.nil
                  go_simp
                  go_at_call 9
                  refine (k_hit (x := x) (y := y) hh).mono ?_
                  rintro e Wm1 ⟨rfl, hbWm1⟩
                  have hSWm1 := hS0.trans (hbWm1.mono hS0.size)
                  try clear hS0
                  clear hbWm1
                  go_wp2_with fail
                  refine hK.out _ _ hSWm1 (fun hHeld => ?_)
                  clear hK hHeld K
                  try simp only [Act.put, List.setIfInBounds_toArray, List.set_cons_zero, List.set_cons_succ]
                  refine wpAnyH_take (i := 9) (oi := ⟨some 92, _, _, _, _, _⟩) (v := ?vm9) rfl (by kernel_rfl) (by kernel_rfl) (by kernel_rfl) (fun _ _ _ h => h) (Or.inl ⟨by kernel_rfl, ?hym9⟩) (by assumption) ?restm9
                  case hym9 => (intro W hSw; (try dsimp only at hSw); go_simp; try with_reducible rfl)
                  case' restm9 => try simp only [Act.put, List.setIfInBounds_toArray, List.set_cons_zero, List.set_cons_succ]
                  refine wpAnyH_take (i := 10) (oi := ⟨some 93, _, _, _, _, _⟩) (v := undef) rfl (by kernel_rfl) (by kernel_rfl) (by kernel_rfl) (fun _ _ _ h => h) (Or.inr ⟨by kernel_rfl, rfl⟩) (by assumption) ?restm10
                  case' restm10 => try simp only [Act.put, List.setIfInBounds_toArray, List.set_cons_zero, List.set_cons_succ]
                  refine wpAnyH_take (i := 11) (oi := ⟨some 94, _, _, _, _, _⟩) (v := undef) rfl (by kernel_rfl) (by kernel_rfl) (by kernel_rfl) (fun _ _ _ h => h) (Or.inr ⟨by kernel_rfl, rfl⟩) (by assumption) ?restm11
                  case' restm11 => try simp only [Act.put, List.setIfInBounds_toArray, List.set_cons_zero, List.set_cons_succ]
                  refine wpAnyH_take (i := 12) (oi := ⟨some 95, _, _, _, _, _⟩) (v := undef) rfl (by kernel_rfl) (by kernel_rfl) (by kernel_rfl) (fun _ _ _ h => h) (Or.inr ⟨by kernel_rfl, rfl⟩) (by assumption) ?restm12
                  case' restm12 => try simp only [Act.put, List.setIfInBounds_toArray, List.set_cons_zero, List.set_cons_succ]
                  refine wpAnyH_take (i := 13) (oi := ⟨some 96, _, _, _, _, _⟩) (v := undef) rfl (by kernel_rfl) (by kernel_rfl) (by kernel_rfl) (fun _ _ _ h => h) (Or.inr ⟨by kernel_rfl, rfl⟩) (by assumption) ?restm13
                  case' restm13 => try simp only [Act.put, List.setIfInBounds_toArray, List.set_cons_zero, List.set_cons_succ]
                  refine wpAnyH_take (i := 14) (oi := ⟨some 97, _, _, _, _, _⟩) (v := undef) rfl (by kernel_rfl) (by kernel_rfl) (by kernel_rfl) (fun _ _ _ h => h) (Or.inr ⟨by kernel_rfl, rfl⟩) (by assumption) ?restm14
                  case' restm14 => try simp only [Act.put, List.setIfInBounds_toArray, List.set_cons_zero, List.set_cons_succ]
                  refine wpAnyH_take (i := 15) (oi := ⟨some 98, _, _, _, _, _⟩) (v := undef) rfl (by kernel_rfl) (by kernel_rfl) (by kernel_rfl) (fun _ _ _ h => h) (Or.inr ⟨by kernel_rfl, rfl⟩) (by assumption) ?restm15
                  case' restm15 => try simp only [Act.put, List.setIfInBounds_toArray, List.set_cons_zero, List.set_cons_succ]
                  refine wpAnyH_take (i := 16) (oi := ⟨some 99, _, _, _, _, _⟩) (v := undef) rfl (by kernel_rfl) (by kernel_rfl) (by kernel_rfl) (fun _ _ _ h => h) (Or.inr ⟨by kernel_rfl, rfl⟩) (by assumption) ?restm16
                  case' restm16 => try simp only [Act.put, List.setIfInBounds_toArray, List.set_cons_zero, List.set_cons_succ]
                  refine wpAnyH_take (i := 17) (oi := ⟨some 100, _, _, _, _, _⟩) (v := undef) rfl (by kernel_rfl) (by kernel_rfl) (by kernel_rfl) (fun _ _ _ h => h) (Or.inr ⟨by kernel_rfl, rfl⟩) (by assumption) ?restm17
                  case' restm17 => try simp only [Act.put, List.setIfInBounds_toArray, List.set_cons_zero, List.set_cons_succ]
                  refine wpAnyH_take (i := 18) (oi := ⟨some 101, _, _, _, _, _⟩) (v := undef) rfl (by kernel_rfl) (by kernel_rfl) (by kernel_rfl) (fun _ _ _ h => h) (Or.inr ⟨by kernel_rfl, rfl⟩) (by assumption) ?restm18
                  case' restm18 => try simp only [Act.put, List.setIfInBounds_toArray, List.set_cons_zero, List.set_cons_succ]
                  refine wpAnyH_take (i := 19) (oi := ⟨some 102, _, _, _, _, _⟩) (v := ?vm19) rfl (by kernel_rfl) (by kernel_rfl) (by kernel_rfl) (fun _ _ _ h => h) (Or.inl ⟨by kernel_rfl, ?hym19⟩) (by assumption) ?restm19
                  case hym19 => (intro W hSw; (try dsimp only at hSw); go_simp; try with_reducible rfl)
                  case' restm19 => try simp only [Act.put, List.setIfInBounds_toArray, List.set_cons_zero, List.set_cons_succ]
                  refine wpAnyH_done (by kernel_rfl) ?_ _
                  have hS9 := hSWm1
                  have hbw2 := hSd.out _ hS9
                  clear hh
                  go_wp2
                  go_roundw
                  case rel => exact ⟨m + 1, by omega, by go_num, hbw2⟩
                  case measure => simp [intOf]; omega
                · have hhy : homeV gs y.f = hv := by rw [← HV.out]; exact (HCONN.out x.f hxf y.f hyf (HED.out hh)).symm
                  have HH : Hid (∀ W, Below wr.drew.heap.size wr.drew W → Calls Try.prog 19 #[.slice G gs.length gc, .int .i64 y.f] W (RetV W (.int .i64 hv))) := Lib.hid (fun W hw => by
                    have := home_any (.slice G gs.length gc) gs y.f W (by omega) (fun g hg => by have := HEACH.out g hg; omega) (hGd.out W hw)
                    rwa [hhy] at this)
                  clear hhy
                  go_wp2_with fail
                  refine wp_region_held_drew (S := fun W : World => Below wr.drew.heap.size wr.drew W) (by kernel_rfl) (Below.refl _ _) (fun hHeld => ?_)
                  clear hHeld
                  generalize wr.drew = w0 at *
                  have hS0 : (fun W : World => Below w0.heap.size w0 W) w0 := Below.refl _ _
                  refine wpAnyH_take (i := 0) (oi := ⟨some 83, _, _, _, _, _⟩) (v := ?vh1) rfl (by kernel_rfl) (by kernel_rfl) (by kernel_rfl) (fun _ _ _ h => h) (Or.inl ⟨by kernel_rfl, ?hyh1⟩) (by assumption) ?resth1
                  case hyh1 => (intro W hSw; (try dsimp only at hSw); go_simp; try with_reducible rfl)
                  case' resth1 => try simp only [Act.put, List.setIfInBounds_toArray, List.set_cons_zero, List.set_cons_succ]
                  refine wpAnyH_take (i := 1) (oi := ⟨some 84, _, _, _, _, _⟩) (v := ?vh2) rfl (by kernel_rfl) (by kernel_rfl) (by kernel_rfl) (fun _ _ _ h => h) (Or.inl ⟨by kernel_rfl, ?hyh2⟩) (by assumption) ?resth2
                  case hyh2 => (intro W hSw; (try dsimp only at hSw); go_simp; try with_reducible rfl)
                  case' resth2 => try simp only [Act.put, List.setIfInBounds_toArray, List.set_cons_zero, List.set_cons_succ]
                  refine wpAnyH_take (i := 2) (oi := ⟨some 85, _, _, _, _, _⟩) (v := ?vh3) rfl (by kernel_rfl) (by kernel_rfl) (by kernel_rfl) (fun _ _ _ h => h) (Or.inl ⟨by kernel_rfl, ?hyh3⟩) (by assumption) ?resth3
                  case hyh3 => (intro W hSw; (try dsimp only at hSw); go_simp; try with_reducible rfl)
                  case' resth3 => try simp only [Act.put, List.setIfInBounds_toArray, List.set_cons_zero, List.set_cons_succ]
                  refine wpAnyH_take (i := 3) (oi := ⟨some 86, _, _, _, _, _⟩) (v := ?vh4) rfl (by kernel_rfl) (by kernel_rfl) (by kernel_rfl) (fun _ _ _ h => h) (Or.inl ⟨by kernel_rfl, ?hyh4⟩) (by assumption) ?resth4
                  case hyh4 => (intro W hSw; obtain ⟨c0, c1, c2, c3, c4, c5, c6, c7⟩ := HA.out W hSw; clear hSw; (try dsimp only at hSw); go_simp; try with_reducible rfl)
                  case' resth4 => try simp only [Act.put, List.setIfInBounds_toArray, List.set_cons_zero, List.set_cons_succ]
                  refine wpAnyH_take (i := 4) (oi := ⟨some 87, _, _, _, _, _⟩) (v := ?vh5) rfl (by kernel_rfl) (by kernel_rfl) (by kernel_rfl) (fun _ _ _ h => h) (Or.inl ⟨by kernel_rfl, ?hyh5⟩) (by assumption) ?resth5
                  case hyh5 => (intro W hSw; (try dsimp only at hSw); go_simp; try with_reducible rfl)
                  case' resth5 => try simp only [Act.put, List.setIfInBounds_toArray, List.set_cons_zero, List.set_cons_succ]
                  refine wpAnyH_take (i := 5) (oi := ⟨some 88, _, _, _, _, _⟩) (v := ?vh6) rfl (by kernel_rfl) (by kernel_rfl) (by kernel_rfl) (fun _ _ _ h => h) (Or.inl ⟨by kernel_rfl, ?hyh6⟩) (by assumption) ?resth6
                  case hyh6 => (intro W hSw; (try dsimp only at hSw); go_simp; try with_reducible rfl)
                  case' resth6 => try simp only [Act.put, List.setIfInBounds_toArray, List.set_cons_zero, List.set_cons_succ]
                  refine wpAnyH_take (i := 6) (oi := ⟨some 89, _, _, _, _, _⟩) (v := ?vh7) rfl (by kernel_rfl) (by kernel_rfl) (by kernel_rfl) (fun _ _ _ h => h) (Or.inl ⟨by kernel_rfl, ?hyh7⟩) (by assumption) ?resth7
                  case hyh7 => (intro W hSw; (try dsimp only at hSw); go_simp; try with_reducible rfl)
                  case' resth7 => try simp only [Act.put, List.setIfInBounds_toArray, List.set_cons_zero, List.set_cons_succ]
                  refine wpAnyH_take (i := 7) (oi := ⟨some 90, _, _, _, _, _⟩) (v := ?vh8) rfl (by kernel_rfl) (by kernel_rfl) (by kernel_rfl) (fun _ _ _ h => h) (Or.inl ⟨by kernel_rfl, ?hyh8⟩) (by assumption) ?resth8
                  case hyh8 => (intro W hSw; obtain ⟨c0, c1, c2, c3, c4, c5, c6, c7⟩ := HB.out W hSw; clear hSw; (try dsimp only at hSw); go_simp; try with_reducible rfl)
                  case' resth8 => try simp only [Act.put, List.setIfInBounds_toArray, List.set_cons_zero, List.set_cons_succ]
                  refine wpAnyH_ready (rs := [8]) (by kernel_rfl) (by simp) ?_
                  refine AllReadyH.cons (o := ⟨some 91, _, _, _, _, _⟩) rfl (fun K hK => ?_) AllReadyH.nil
                  go_simp
                  go_at_call 9
                  refine (k_hit (x := x) (y := y) hh).mono ?_
                  rintro e Wh1 ⟨rfl, hbWh1⟩
                  have hSWh1 := hS0.trans (hbWh1.mono hS0.size)
                  try clear hS0
                  clear hbWh1
                  go_wp2_with fail
                  refine hK.out _ _ hSWh1 (fun hHeld => ?_)
                  clear hK hHeld K
                  try simp only [Act.put, List.setIfInBounds_toArray, List.set_cons_zero, List.set_cons_succ]
                  refine wpAnyH_take (i := 9) (oi := ⟨some 92, _, _, _, _, _⟩) (v := ?vh9) rfl (by kernel_rfl) (by kernel_rfl) (by kernel_rfl) (fun _ _ _ h => h) (Or.inl ⟨by kernel_rfl, ?hyh9⟩) (by assumption) ?resth9
                  case hyh9 => (intro W hSw; (try dsimp only at hSw); go_simp; try with_reducible rfl)
                  case' resth9 => try simp only [Act.put, List.setIfInBounds_toArray, List.set_cons_zero, List.set_cons_succ]
                  refine wpAnyH_take (i := 10) (oi := ⟨some 93, _, _, _, _, _⟩) (v := ?vh10) rfl (by kernel_rfl) (by kernel_rfl) (by kernel_rfl) (fun _ _ _ h => h) (Or.inl ⟨by kernel_rfl, ?hyh10⟩) (by assumption) ?resth10
                  case hyh10 => (intro W hSw; (try dsimp only at hSw); go_simp; try with_reducible rfl)
                  case' resth10 => try simp only [Act.put, List.setIfInBounds_toArray, List.set_cons_zero, List.set_cons_succ]
                  refine wpAnyH_take (i := 11) (oi := ⟨some 94, _, _, _, _, _⟩) (v := ?vh11) rfl (by kernel_rfl) (by kernel_rfl) (by kernel_rfl) (fun _ _ _ h => h) (Or.inl ⟨by kernel_rfl, ?hyh11⟩) (by assumption) ?resth11
                  case hyh11 => (intro W hSw; (try dsimp only at hSw); go_simp; try with_reducible rfl)
                  case' resth11 => try simp only [Act.put, List.setIfInBounds_toArray, List.set_cons_zero, List.set_cons_succ]
                  refine wpAnyH_take (i := 12) (oi := ⟨some 95, _, _, _, _, _⟩) (v := ?vh12) rfl (by kernel_rfl) (by kernel_rfl) (by kernel_rfl) (fun _ _ _ h => h) (Or.inl ⟨by kernel_rfl, ?hyh12⟩) (by assumption) ?resth12
                  case hyh12 => (intro W hSw; (try dsimp only at hSw); go_simp; try with_reducible rfl)
                  case' resth12 => try simp only [Act.put, List.setIfInBounds_toArray, List.set_cons_zero, List.set_cons_succ]
                  refine wpAnyH_take (i := 13) (oi := ⟨some 96, _, _, _, _, _⟩) (v := ?vh13) rfl (by kernel_rfl) (by kernel_rfl) (by kernel_rfl) (fun _ _ _ h => h) (Or.inl ⟨by kernel_rfl, ?hyh13⟩) (by assumption) ?resth13
                  case hyh13 => (intro W hSw; (try dsimp only at hSw); go_simp; try with_reducible rfl)
                  case' resth13 => try simp only [Act.put, List.setIfInBounds_toArray, List.set_cons_zero, List.set_cons_succ]
                  refine wpAnyH_take (i := 14) (oi := ⟨some 97, _, _, _, _, _⟩) (v := ?vh14) rfl (by kernel_rfl) (by kernel_rfl) (by kernel_rfl) (fun _ _ _ h => h) (Or.inl ⟨by kernel_rfl, ?hyh14⟩) (by assumption) ?resth14
                  case hyh14 => (intro W hSw; (try dsimp only at hSw); go_simp; try with_reducible rfl)
                  case' resth14 => try simp only [Act.put, List.setIfInBounds_toArray, List.set_cons_zero, List.set_cons_succ]
                  refine wpAnyH_take (i := 15) (oi := ⟨some 98, _, _, _, _, _⟩) (v := ?vh15) rfl (by kernel_rfl) (by kernel_rfl) (by kernel_rfl) (fun _ _ _ h => h) (Or.inl ⟨by kernel_rfl, ?hyh15⟩) (by assumption) ?resth15
                  case hyh15 => (intro W hSw; have c0 := (HB.out W hSw).1; clear hSw; (try dsimp only at hSw); go_simp; try with_reducible rfl)
                  case' resth15 => try simp only [Act.put, List.setIfInBounds_toArray, List.set_cons_zero, List.set_cons_succ]
                  refine wpAnyH_take (i := 17) (oi := ⟨some 100, _, _, _, _, _⟩) (v := ?vh16) rfl (by kernel_rfl) (by kernel_rfl) (by kernel_rfl) (fun _ _ _ h => h) (Or.inl ⟨by kernel_rfl, ?hyh16⟩) (by assumption) ?resth16
                  case hyh16 => (intro W hSw; (try dsimp only at hSw); go_simp; try with_reducible rfl)
                  case' resth16 => try simp only [Act.put, List.setIfInBounds_toArray, List.set_cons_zero, List.set_cons_succ]
                  refine wpAnyH_ready (rs := [16]) (by kernel_rfl) (by simp) ?_
                  refine AllReadyH.cons (o := ⟨some 99, _, _, _, _, _⟩) rfl (fun K hK => ?_) AllReadyH.nil
                  go_simp
                  go_at_call 19
                  refine (HH.out Wh1 hSWh1).mono ?_
                  rintro e Wh2 ⟨rfl, hbWh2⟩
                  have hSWh2 := hSWh1.trans (hbWh2.mono hSWh1.size)
                  try clear hSWh1
                  clear hbWh2
                  go_wp2_with fail
                  refine hK.out _ _ hSWh2 (fun hHeld => ?_)
                  clear hK hHeld K
                  try simp only [Act.put, List.setIfInBounds_toArray, List.set_cons_zero, List.set_cons_succ]
                  refine wpAnyH_take (i := 18) (oi := ⟨some 101, _, _, _, _, _⟩) (v := ?vh17) rfl (by kernel_rfl) (by kernel_rfl) (by kernel_rfl) (fun _ _ _ h => h) (Or.inl ⟨by kernel_rfl, ?hyh17⟩) (by assumption) ?resth17
                  case hyh17 => (intro W hSw; (try dsimp only at hSw); go_simp; try with_reducible rfl)
                  case' resth17 => try simp only [Act.put, List.setIfInBounds_toArray, List.set_cons_zero, List.set_cons_succ]
                  refine wpAnyH_take (i := 19) (oi := ⟨some 102, _, _, _, _, _⟩) (v := ?vh18) rfl (by kernel_rfl) (by kernel_rfl) (by kernel_rfl) (fun _ _ _ h => h) (Or.inl ⟨by kernel_rfl, ?hyh18⟩) (by assumption) ?resth18
                  case hyh18 => (intro W hSw; (try dsimp only at hSw); go_simp; try with_reducible rfl)
                  case' resth18 => try simp only [Act.put, List.setIfInBounds_toArray, List.set_cons_zero, List.set_cons_succ]
                  refine wpAnyH_done (by kernel_rfl) ?_ _
                  have hS9 := hSWh2
                  have hbw2 := hSd.out _ hS9
                  clear hh
                  go_wp2
                  go_roundw
                  case rel => exact ⟨m + 1, by omega, by go_num, hbw2⟩
                  case measure => simp [intOf]; omega
              · obtain rfl : m = l.length := by omega
                go_wp2
                go_roundw
                case rel => exact ⟨k + 1, by omega, by go_num, hbz.trans (hbzr.mono hbz.size)⟩
                case measure => simp [intOf]; omega
          · have cF := Lib.hid (ref_features A c l wz (by omega) hR3)
            clear hR3
            obtain rfl : k = l.length := by omega
            go_wp2_with fail
            refine cF.out.mono ?_
            rintro e w2 ⟨v2, rfl, hS2, hb2, _⟩
            have k2 := kz.trans (hb2.mono kz.size)
            obtain ⟨A2, c2, rfl, _, _⟩ := hS2
            rw [HN.out]
            clear cF kz
            go_wp2_with fail
            refine (law_awake w2).mono ?_
            rintro e w3 ⟨rfl, hb3⟩
            have k3 := k2.trans (hb3.mono k2.size)
            clear k2 hb3 hb2
            go_wp2
            go_ret
            exact RetV.bool rfl k3
  · go_enter Try.func6, Try.ntmps6
    go_wp2_with fail
    refine (law_awake w).mono ?_
    rintro e w1 ⟨rfl, hb1⟩
    have k1 := k0.trans (hb1.mono k0.size)
    clear k0 hb1
    go_wp2
    go_ret
    exact RetV.bool rfl k1
end Go.Proofs
