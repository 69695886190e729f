/- row, walked. -/
import Derived.Test.YtafaojmkbbhjmaaM2
import Derived.Test.YtafaojmkbbhjmaaC8
import Derived.StillTailTactics
set_option linter.unusedVariables false
set_option linter.unusedSimpArgs false
namespace Go.Proofs
open Go.RowKit Go.Proofs.Mp

theorem Quad.cel {w W : World} {n : Nat} {vE vR : Value} {es : List Int} {rs : List (Int × Int)} {a b : Pt} (h : Quad w W n vE vR es rs a b) :
    W.cell? ⟨n, 0, none⟩ = some (.int .i64 a.1) ∧ W.cell? ⟨n, 1, none⟩ = some (.int .i64 a.2) ∧ W.cell? ⟨n + 1, 0, none⟩ = some (.int .i64 b.1) ∧ W.cell? ⟨n + 1, 1, none⟩ = some (.int .i64 b.2) ∧ n < W.heap.size ∧ n + 1 < W.heap.size :=
  ⟨h.2.1.c0, h.2.1.c1, h.2.2.1.c0, h.2.2.1.c1, h.2.1.lt, h.2.2.1.lt⟩
/-- the product of the quotient and the divisor lies near the dividend -/
theorem cei_near {n d : Int} (hd : d ≠ 0) : absI (cei n d * d - n) < absI d := by
  rcases Int.lt_or_gt_of_ne hd with h | h
  · have e : cei n d = cei (-n) (-d) := (cei_neg n d hd).symm
    obtain ⟨g1, g2⟩ := cei_spec (a := -n) (b := -d) (by omega)
    rw [e]
    generalize cei (-n) (-d) = c at *
    have e1 : -d * (c - 1) = -(c * d) + d := by grind
    have e2 : -d * c = -(c * d) := by grind
    rw [e1] at g1
    rw [e2] at g2
    unfold absI
    split <;> (try split) <;> omega
  · obtain ⟨g1, g2⟩ := cei_spec (a := n) (b := d) h
    generalize cei n d = c at *
    have e1 : d * (c - 1) = c * d - d := by grind
    have e2 : d * c = c * d := by grind
    rw [e1] at g1
    rw [e2] at g2
    unfold absI
    split <;> (try split) <;> omega
theorem cei_le {n d : Int} (hd : d ≠ 0) : -absI n - 1 ≤ cei n d ∧ cei n d ≤ absI n + 1 := by
  have h := ceiR n d hd
  have hA : 0 ≤ absI n := by unfold absI; split <;> omega
  have hD : 1 ≤ absI d := by unfold absI; split <;> omega
  have hq := IntWalk.tdiv_le (absI n) (absI d) hA hD
  rw [h]
  split
  · omega
  · split <;> omega
theorem way_bound {y : Int} {a b : Pt} (ha : Vp a) (hb : Vp b) (hy1 : -1048576 ≤ y) (hy2 : y ≤ 1048576) : -4398046511104 ≤ wayI y a b ∧ wayI y a b ≤ 4398046511104 := by
  obtain ⟨a1, a2, a3, a4⟩ := ha
  obtain ⟨b1, b2, b3, b4⟩ := hb
  have := mul_bound (a := b.1 - a.1) (b := y - a.2) (n := 2097152) (m := 2097152) (by omega) (by omega) (by omega) (by omega) (by omega)
  unfold wayI
  omega
theorem up_bound {y : Int} {a b : Pt} (ha : Vp a) (hb : Vp b) (hy1 : -1048576 ≤ y) (hy2 : y ≤ 1048576) (hd : b.2 - a.2 ≠ 0) :
    -4398046511105 ≤ upI y a b ∧ upI y a b ≤ 4398046511105 ∧ -8796093022208 ≤ upI y a b * (b.2 - a.2) ∧ upI y a b * (b.2 - a.2) ≤ 8796093022208 := by
  have h1 := way_bound ha hb hy1 hy2
  have h2 := cei_near (n := wayI y a b) hd
  have h3 := cei_le (n := wayI y a b) hd
  obtain ⟨a1, a2, a3, a4⟩ := ha
  obtain ⟨b1, b2, b3, b4⟩ := hb
  have h4 : absI (wayI y a b) ≤ 4398046511104 := by unfold absI; split <;> omega
  have h5 : absI (b.2 - a.2) ≤ 2097152 := by unfold absI; split <;> omega
  unfold upI
  generalize cei (wayI y a b) (b.2 - a.2) = u at *
  generalize u * (b.2 - a.2) = m at *
  have h6 : -2097152 ≤ m - wayI y a b ∧ m - wayI y a b ≤ 2097152 := by unfold absI at h2; split at h2 <;> split at h2 <;> omega
  omega
theorem Duo.sorted {w W : World} {vE vR : Value} {es : List Int} {rs : List (Int × Int)} (h : Duo w W vE vR es rs) (hl : es.length ≤ 1000000) :
    Calls Try.prog 50 #[vE] W fun e w' => e = .returned (.tuple #[]) ∧ ∃ A c B d, vE = .slice A (srtI es).length c ∧ RdI w' A (srtI es) ∧ vR = .slice B rs.length d ∧ RdR w' B rs ∧ Below w.heap.size w w' := by
  refine (sort_held2 (own_held h.1) (by omega)).mono ?_
  rintro e w' ⟨he, hH, hg⟩
  have hR' : OwnR 52 w' w.heap.size vR rs := World.ownsRow.kept h.2.1 hg (by
    rcases hb : vR.ownBlock with _ | j
    · exact .inl rfl
    · exact .inr fun e => h.2.2.1 j e.symm hb)
  obtain ⟨B, d, hB⟩ := Own.slice hR'
  obtain ⟨A, c, hA⟩ := Own.slice h.1
  subst hA hB
  rw [← srtI_len es] at hH ⊢
  refine ⟨he, A, c, B, d, rfl, (held_rd hH).2, rfl, Own.rd encR_len hR', h.2.2.2.grown hg h.2.2.2.size (fun k hk => (World.ownsRow.lt h.1 k hk).1)⟩

set_option maxRecDepth 100000 in
set_option maxHeartbeats 16000000 in
theorem ring_row (A : Option Addr) (c : Nat) (l : List Pt) (y : Int) (w : World) (hn : l.length ≤ 4096) (hv : allVp l) (hy1 : -1048576 ≤ y) (hy2 : y ≤ 1048576) (hR : RdR w A l) :
    Calls Try.prog 34 #[.slice A l.length c, .int .i64 y] w (RetR w (rowL l y)) := by
  have cE := Lib.hid fun (i : Nat) (hi : i < l.length) (W : World) (hb : Below w.heap.size w W) => ring_edge A c l i W (by omega) hi (hR.below hb)
  have HV := Lib.hid hv
  have cC := Lib.hid fun a b W h1 h2 hb => num_ceil a b W h1 h2 hb
  have HLE := Lib.hid (endsTo_len l y)
  have HLR := Lib.hid (edgesTo_len l y)
  clear hR hv
  unfold aggP at cE
  go_enter Try.func34, Try.ntmps34
  go_wp2_with fail
  go_loopw [5, 6, 18] (fun v5 v6 i wr => ∃ k : Nat, k ≤ l.length ∧ i = .int .i64 k ∧ Duo w wr v5 v6 (endsTo l y k) (edgesTo l y k)) (fun _ _ i _ => l.length - (intOf i).toNat)
  case atStart => exact ⟨0, by omega, rfl, Own.nil _ _, Own.nil _ _, fun j hj => (by cases hj), Below.refl _ _⟩
  case round =>
    obtain ⟨k, hk, rfl, hduo⟩ := hrel
    by_cases hlt : k < l.length
    · go_wp2_with fail
      refine (cE.out k hlt wr hduo.2.2.2).mono ?_
      rintro e w1 ⟨rfl, hb1⟩
      have hduo1 := hduo.below hb1
      clear hb1 hduo
      have va := HV.out k hlt
      have vb := edE_vp HV.out hlt
      have HE := Lib.hid (show endsTo l y (k + 1) = endsTo l y k ++ eE y l[k]! (edE l k) from rfl)
      have HRR := Lib.hid (show edgesTo l y (k + 1) = edgesTo l y k ++ eR y l[k]! (edE l k) from rfl)
      have le := HLE.out k
      have lr := HLR.out k
      obtain ⟨⟨a1, a2⟩, hcc⟩ : ∃ p, l[k]! = p := ⟨_, rfl⟩
      obtain ⟨⟨b1, b2⟩, hdd⟩ : ∃ p, edE l k = p := ⟨_, rfl⟩
      rw [hcc, hdd]
      rw [hcc, hdd] at HE HRR
      rw [hcc] at va
      rw [hdd] at vb
      clear hcc hdd
      obtain ⟨es, he0⟩ : ∃ x, endsTo l y k = x := ⟨_, rfl⟩
      obtain ⟨rs, hr0⟩ : ∃ x, edgesTo l y k = x := ⟨_, rfl⟩
      rw [he0] at HE hduo1 le
      rw [hr0] at HRR hduo1 lr
      clear he0 hr0
      have HWB := Lib.hid (way_bound va vb hy1 hy2)
      have HUB := Lib.hid (up_bound va vb hy1 hy2)
      unfold Vp at va vb
      dsimp only at va vb ⊢
      obtain ⟨x1, x2, x3, x4⟩ := va
      obtain ⟨y1, y2, y3, y4⟩ := vb
      have hq := Quad.begin hduo1 (a1, a2) (b1, b2)
      dsimp only at hq
      clear hduo1
      go_upto_region 7 with fail
      generalize ((w1.alloc (.cells #[.int .i64 a1, .int .i64 a2] 32)).alloc (.cells #[.int .i64 b1, .int .i64 b2] 32)) = w2 at *
      generalize w1.heap.size = n at *
      obtain ⟨k1, k2, k3, k4, l1, l2⟩ := hq.cel
      dsimp only at k1 k2 k3 k4
      by_cases q1 : a2 = y
      · have e1 : (a2 == y) = true := by rw [beq_iff_eq]; exact q1
        have HQ1 := Lib.hid q1
        clear q1
        by_cases q2 : b2 = y
        · have e2 : (b2 == y) = true := by rw [beq_iff_eq]; exact q2
          have HQ2 := Lib.hid q2
          clear q2
          have e3 : decide (y < a2) = false := decide_eq_false (by have := HQ1.out; omega)
          have e4 : decide (y < b2) = false := decide_eq_false (by have := HQ2.out; omega)
          have HCR : crossB y (a1, a2) (b1, b2) = false := by unfold crossB; dsimp only; rw [e3, e4]; rfl
          have HE2 := Lib.hid (HE.out.trans (show es ++ eE y (a1, a2) (b1, b2) = es by unfold eE; rw [HCR]; simp))
          have R1 : eR1 y (a1, a2) (b1, b2) = [(a1, a1 + 1)] := if_pos HQ1.out
          have R2 : eR2 y (a1, a2) (b1, b2) = [(min a1 b1, max a1 b1 + 1)] := if_pos ⟨HQ1.out, HQ2.out⟩
          have R3 : eR3 y (a1, a2) (b1, b2) = [] := by unfold eR3; rw [if_neg]; intro h; rw [HCR] at h; exact absurd h.1 (by decide)
          have HR2 := Lib.hid (HRR.out.trans (show rs ++ eR y (a1, a2) (b1, b2) = rs ++ [(a1, a1 + 1)] ++ [(min a1 b1, max a1 b1 + 1)] by unfold eR; rw [R1, R2, R3]; simp))
          clear R1 R2 R3
          clear HE HRR HCR
          go_wp2_with (first
            | (at_builtin; refine Quad.appR hq _ _ rfl _ _ rfl rfl rfl (by first | omega | (simp only [List.length_append, List.length_cons, List.length_nil]; omega)) ?_; clear hq k1 k2 k3 k4 l1 l2; intro v9 w9 hq; obtain ⟨k1, k2, k3, k4, l1, l2⟩ := hq.cel; dsimp only at k1 k2 k3 k4)
            | (at_builtin; refine Quad.appE hq _ rfl _ _ rfl rfl rfl (by first | omega | (simp only [List.length_append, List.length_cons, List.length_nil]; omega)) ?_; clear hq k1 k2 k3 k4 l1 l2; intro v9 w9 hq; obtain ⟨k1, k2, k3, k4, l1, l2⟩ := hq.cel; dsimp only at k1 k2 k3 k4))
          go_roundw
          case rel => exact ⟨k + 1, by omega, by go_num, by rw [HE2.out, HR2.out]; first | exact hq.1 | (simpa using hq.1)⟩
          case measure => simp [intOf]; omega
        · have e2 : (b2 == y) = false := by rw [beq_eq_false_iff_ne]; exact q2
          have HQ2 := Lib.hid q2
          clear q2
          have e3 : decide (y < a2) = false := decide_eq_false (by have := HQ1.out; omega)
          by_cases h4 : y < b2
          · have e4 : decide (y < b2) = true := decide_eq_true h4
            clear h4
            have hd0 : b2 - a2 ≠ 0 := by intro h; have h1 : b2 = a2 := by omega
                                         subst h1; rw [e3] at e4; cases e4
            obtain ⟨ub1, ub2, ub3, ub4⟩ := HUB.out hd0
            obtain ⟨wb1, wb2⟩ := HWB.out
            obtain ⟨u, hu⟩ : ∃ u, upI y (a1, a2) (b1, b2) = u := ⟨_, rfl⟩
            have cC2 := Lib.hid fun W => cC.out (wayI y (a1, a2) (b1, b2)) (b2 - a2) W (by omega) (by omega) hd0
            have hux : cei (wayI y (a1, a2) (b1, b2)) (b2 - a2) = u := hu
            rw [hux] at cC2
            clear hux
            rw [hu] at ub1 ub2 ub3 ub4
            have hwy : wayI y (a1, a2) (b1, b2) = (b1 - a1) * (y - a2) := rfl
            rw [hwy] at cC2 wb1 wb2
            dsimp only at ub3 ub4
            have HD0 := Lib.hid hd0
            clear hd0
            by_cases q3 : u * (b2 - a2) = (b1 - a1) * (y - a2)
            · have HQ3 := Lib.hid q3
              have e5 : (u * (b2 - a2) == (b1 - a1) * (y - a2)) = true := by rw [beq_iff_eq]; exact q3
              clear q3
              have HCR : crossB y (a1, a2) (b1, b2) = true := by unfold crossB; dsimp only; rw [e3, e4]; rfl
              have HE2 := Lib.hid (HE.out.trans (show es ++ eE y (a1, a2) (b1, b2) = es ++ [a1 + u] by unfold eE; rw [HCR]; simp [hu]))
              have R1 : eR1 y (a1, a2) (b1, b2) = [(a1, a1 + 1)] := if_pos HQ1.out
              have R2 : eR2 y (a1, a2) (b1, b2) = [] := if_neg (fun h => HQ2.out h.2)
              have R3 : eR3 y (a1, a2) (b1, b2) = [(a1 + u, a1 + u + 1)] := by unfold eR3; rw [hu]; exact if_pos ⟨HCR, HQ3.out⟩
              have HR2 := Lib.hid (HRR.out.trans (show rs ++ eR y (a1, a2) (b1, b2) = rs ++ [(a1, a1 + 1)] ++ [(a1 + u, a1 + u + 1)] by unfold eR; rw [R1, R2, R3]; simp))
              clear R1 R2 R3
              clear HE HRR HCR hu hwy
              go_wp2_with (first
                | (at_builtin; refine Quad.appR hq _ _ rfl _ _ rfl rfl rfl (by first | omega | (simp only [List.length_append, List.length_cons, List.length_nil]; omega)) ?_; clear hq k1 k2 k3 k4 l1 l2; intro v9 w9 hq; obtain ⟨k1, k2, k3, k4, l1, l2⟩ := hq.cel; dsimp only at k1 k2 k3 k4)
                | (at_builtin; refine Quad.appE hq _ rfl _ _ rfl rfl rfl (by first | omega | (simp only [List.length_append, List.length_cons, List.length_nil]; omega)) ?_; clear hq k1 k2 k3 k4 l1 l2; intro v9 w9 hq; obtain ⟨k1, k2, k3, k4, l1, l2⟩ := hq.cel; dsimp only at k1 k2 k3 k4))
              refine (cC2.out _).mono ?_
              rintro e w8 ⟨rfl, hb8⟩
              replace hq := hq.below hb8
              clear k1 k2 k3 k4 l1 l2 hb8
              obtain ⟨k1, k2, k3, k4, l1, l2⟩ := hq.cel
              dsimp only at k1 k2 k3 k4
              go_wp2_with (first
                | (at_builtin; refine Quad.appR hq _ _ rfl _ _ rfl rfl rfl (by first | omega | (simp only [List.length_append, List.length_cons, List.length_nil]; omega)) ?_; clear hq k1 k2 k3 k4 l1 l2; intro v9 w9 hq; obtain ⟨k1, k2, k3, k4, l1, l2⟩ := hq.cel; dsimp only at k1 k2 k3 k4)
                | (at_builtin; refine Quad.appE hq _ rfl _ _ rfl rfl rfl (by first | omega | (simp only [List.length_append, List.length_cons, List.length_nil]; omega)) ?_; clear hq k1 k2 k3 k4 l1 l2; intro v9 w9 hq; obtain ⟨k1, k2, k3, k4, l1, l2⟩ := hq.cel; dsimp only at k1 k2 k3 k4))
              go_roundw
              case rel => exact ⟨k + 1, by omega, by go_num, by rw [HE2.out, HR2.out]; first | exact hq.1 | (simpa using hq.1)⟩
              case measure => simp [intOf]; omega
            · have HQ3 := Lib.hid q3
              have e5 : (u * (b2 - a2) == (b1 - a1) * (y - a2)) = false := by rw [beq_eq_false_iff_ne]; exact q3
              clear q3
              have HCR : crossB y (a1, a2) (b1, b2) = true := by unfold crossB; dsimp only; rw [e3, e4]; rfl
              have HE2 := Lib.hid (HE.out.trans (show es ++ eE y (a1, a2) (b1, b2) = es ++ [a1 + u] by unfold eE; rw [HCR]; simp [hu]))
              have R1 : eR1 y (a1, a2) (b1, b2) = [(a1, a1 + 1)] := if_pos HQ1.out
              have R2 : eR2 y (a1, a2) (b1, b2) = [] := if_neg (fun h => HQ2.out h.2)
              have R3 : eR3 y (a1, a2) (b1, b2) = [] := by unfold eR3; rw [hu]; exact if_neg (fun h => HQ3.out h.2)
              have HR2 := Lib.hid (HRR.out.trans (show rs ++ eR y (a1, a2) (b1, b2) = rs ++ [(a1, a1 + 1)] by unfold eR; rw [R1, R2, R3]; simp))
              clear R1 R2 R3
              clear HE HRR HCR hu hwy
              go_wp2_with (first
                | (at_builtin; refine Quad.appR hq _ _ rfl _ _ rfl rfl rfl (by first | omega | (simp only [List.length_append, List.length_cons, List.length_nil]; omega)) ?_; clear hq k1 k2 k3 k4 l1 l2; intro v9 w9 hq; obtain ⟨k1, k2, k3, k4, l1, l2⟩ := hq.cel; dsimp only at k1 k2 k3 k4)
                | (at_builtin; refine Quad.appE hq _ rfl _ _ rfl rfl rfl (by first | omega | (simp only [List.length_append, List.length_cons, List.length_nil]; omega)) ?_; clear hq k1 k2 k3 k4 l1 l2; intro v9 w9 hq; obtain ⟨k1, k2, k3, k4, l1, l2⟩ := hq.cel; dsimp only at k1 k2 k3 k4))
              refine (cC2.out _).mono ?_
              rintro e w8 ⟨rfl, hb8⟩
              replace hq := hq.below hb8
              clear k1 k2 k3 k4 l1 l2 hb8
              obtain ⟨k1, k2, k3, k4, l1, l2⟩ := hq.cel
              dsimp only at k1 k2 k3 k4
              go_wp2_with (first
                | (at_builtin; refine Quad.appR hq _ _ rfl _ _ rfl rfl rfl (by first | omega | (simp only [List.length_append, List.length_cons, List.length_nil]; omega)) ?_; clear hq k1 k2 k3 k4 l1 l2; intro v9 w9 hq; obtain ⟨k1, k2, k3, k4, l1, l2⟩ := hq.cel; dsimp only at k1 k2 k3 k4)
                | (at_builtin; refine Quad.appE hq _ rfl _ _ rfl rfl rfl (by first | omega | (simp only [List.length_append, List.length_cons, List.length_nil]; omega)) ?_; clear hq k1 k2 k3 k4 l1 l2; intro v9 w9 hq; obtain ⟨k1, k2, k3, k4, l1, l2⟩ := hq.cel; dsimp only at k1 k2 k3 k4))
              go_roundw
              case rel => exact ⟨k + 1, by omega, by go_num, by rw [HE2.out, HR2.out]; first | exact hq.1 | (simpa using hq.1)⟩
              case measure => simp [intOf]; omega
          · have e4 : decide (y < b2) = false := decide_eq_false h4
            clear h4
            have HCR : crossB y (a1, a2) (b1, b2) = false := by unfold crossB; dsimp only; rw [e3, e4]; rfl
            have HE2 := Lib.hid (HE.out.trans (show es ++ eE y (a1, a2) (b1, b2) = es by unfold eE; rw [HCR]; simp))
            have R1 : eR1 y (a1, a2) (b1, b2) = [(a1, a1 + 1)] := if_pos HQ1.out
            have R2 : eR2 y (a1, a2) (b1, b2) = [] := if_neg (fun h => HQ2.out h.2)
            have R3 : eR3 y (a1, a2) (b1, b2) = [] := by unfold eR3; rw [if_neg]; intro h; rw [HCR] at h; exact absurd h.1 (by decide)
            have HR2 := Lib.hid (HRR.out.trans (show rs ++ eR y (a1, a2) (b1, b2) = rs ++ [(a1, a1 + 1)] by unfold eR; rw [R1, R2, R3]; simp))
            clear R1 R2 R3
            clear HE HRR HCR
            go_wp2_with (first
              | (at_builtin; refine Quad.appR hq _ _ rfl _ _ rfl rfl rfl (by first | omega | (simp only [List.length_append, List.length_cons, List.length_nil]; omega)) ?_; clear hq k1 k2 k3 k4 l1 l2; intro v9 w9 hq; obtain ⟨k1, k2, k3, k4, l1, l2⟩ := hq.cel; dsimp only at k1 k2 k3 k4)
              | (at_builtin; refine Quad.appE hq _ rfl _ _ rfl rfl rfl (by first | omega | (simp only [List.length_append, List.length_cons, List.length_nil]; omega)) ?_; clear hq k1 k2 k3 k4 l1 l2; intro v9 w9 hq; obtain ⟨k1, k2, k3, k4, l1, l2⟩ := hq.cel; dsimp only at k1 k2 k3 k4))
            go_roundw
            case rel => exact ⟨k + 1, by omega, by go_num, by rw [HE2.out, HR2.out]; first | exact hq.1 | (simpa using hq.1)⟩
            case measure => simp [intOf]; omega
      · have e1 : (a2 == y) = false := by rw [beq_eq_false_iff_ne]; exact q1
        have HQ1 := Lib.hid q1
        clear q1
        by_cases h3 : y < a2
        · have e3 : decide (y < a2) = true := decide_eq_true h3
          clear h3
          by_cases h4 : y < b2
          · have e4 : decide (y < b2) = true := decide_eq_true h4
            clear h4
            have HCR : crossB y (a1, a2) (b1, b2) = false := by unfold crossB; dsimp only; rw [e3, e4]; rfl
            have HE2 := Lib.hid (HE.out.trans (show es ++ eE y (a1, a2) (b1, b2) = es by unfold eE; rw [HCR]; simp))
            have R1 : eR1 y (a1, a2) (b1, b2) = [] := if_neg HQ1.out
            have R2 : eR2 y (a1, a2) (b1, b2) = [] := if_neg (fun h => HQ1.out h.1)
            have R3 : eR3 y (a1, a2) (b1, b2) = [] := by unfold eR3; rw [if_neg]; intro h; rw [HCR] at h; exact absurd h.1 (by decide)
            have HR2 := Lib.hid (HRR.out.trans (show rs ++ eR y (a1, a2) (b1, b2) = rs by unfold eR; rw [R1, R2, R3]; simp))
            clear R1 R2 R3
            clear HE HRR HCR
            go_wp2_with (first
              | (at_builtin; refine Quad.appR hq _ _ rfl _ _ rfl rfl rfl (by first | omega | (simp only [List.length_append, List.length_cons, List.length_nil]; omega)) ?_; clear hq k1 k2 k3 k4 l1 l2; intro v9 w9 hq; obtain ⟨k1, k2, k3, k4, l1, l2⟩ := hq.cel; dsimp only at k1 k2 k3 k4)
              | (at_builtin; refine Quad.appE hq _ rfl _ _ rfl rfl rfl (by first | omega | (simp only [List.length_append, List.length_cons, List.length_nil]; omega)) ?_; clear hq k1 k2 k3 k4 l1 l2; intro v9 w9 hq; obtain ⟨k1, k2, k3, k4, l1, l2⟩ := hq.cel; dsimp only at k1 k2 k3 k4))
            go_roundw
            case rel => exact ⟨k + 1, by omega, by go_num, by rw [HE2.out, HR2.out]; first | exact hq.1 | (simpa using hq.1)⟩
            case measure => simp [intOf]; omega
          · have e4 : decide (y < b2) = false := decide_eq_false h4
            clear h4
            have hd0 : b2 - a2 ≠ 0 := by intro h; have h1 : b2 = a2 := by omega
                                         subst h1; rw [e3] at e4; cases e4
            obtain ⟨ub1, ub2, ub3, ub4⟩ := HUB.out hd0
            obtain ⟨wb1, wb2⟩ := HWB.out
            obtain ⟨u, hu⟩ : ∃ u, upI y (a1, a2) (b1, b2) = u := ⟨_, rfl⟩
            have cC2 := Lib.hid fun W => cC.out (wayI y (a1, a2) (b1, b2)) (b2 - a2) W (by omega) (by omega) hd0
            have hux : cei (wayI y (a1, a2) (b1, b2)) (b2 - a2) = u := hu
            rw [hux] at cC2
            clear hux
            rw [hu] at ub1 ub2 ub3 ub4
            have hwy : wayI y (a1, a2) (b1, b2) = (b1 - a1) * (y - a2) := rfl
            rw [hwy] at cC2 wb1 wb2
            dsimp only at ub3 ub4
            have HD0 := Lib.hid hd0
            clear hd0
            by_cases q3 : u * (b2 - a2) = (b1 - a1) * (y - a2)
            · have HQ3 := Lib.hid q3
              have e5 : (u * (b2 - a2) == (b1 - a1) * (y - a2)) = true := by rw [beq_iff_eq]; exact q3
              clear q3
              have HCR : crossB y (a1, a2) (b1, b2) = true := by unfold crossB; dsimp only; rw [e3, e4]; rfl
              have HE2 := Lib.hid (HE.out.trans (show es ++ eE y (a1, a2) (b1, b2) = es ++ [a1 + u] by unfold eE; rw [HCR]; simp [hu]))
              have R1 : eR1 y (a1, a2) (b1, b2) = [] := if_neg HQ1.out
              have R2 : eR2 y (a1, a2) (b1, b2) = [] := if_neg (fun h => HQ1.out h.1)
              have R3 : eR3 y (a1, a2) (b1, b2) = [(a1 + u, a1 + u + 1)] := by unfold eR3; rw [hu]; exact if_pos ⟨HCR, HQ3.out⟩
              have HR2 := Lib.hid (HRR.out.trans (show rs ++ eR y (a1, a2) (b1, b2) = rs ++ [(a1 + u, a1 + u + 1)] by unfold eR; rw [R1, R2, R3]; simp))
              clear R1 R2 R3
              clear HE HRR HCR hu hwy
              go_wp2_with (first
                | (at_builtin; refine Quad.appR hq _ _ rfl _ _ rfl rfl rfl (by first | omega | (simp only [List.length_append, List.length_cons, List.length_nil]; omega)) ?_; clear hq k1 k2 k3 k4 l1 l2; intro v9 w9 hq; obtain ⟨k1, k2, k3, k4, l1, l2⟩ := hq.cel; dsimp only at k1 k2 k3 k4)
                | (at_builtin; refine Quad.appE hq _ rfl _ _ rfl rfl rfl (by first | omega | (simp only [List.length_append, List.length_cons, List.length_nil]; omega)) ?_; clear hq k1 k2 k3 k4 l1 l2; intro v9 w9 hq; obtain ⟨k1, k2, k3, k4, l1, l2⟩ := hq.cel; dsimp only at k1 k2 k3 k4))
              refine (cC2.out _).mono ?_
              rintro e w8 ⟨rfl, hb8⟩
              replace hq := hq.below hb8
              clear k1 k2 k3 k4 l1 l2 hb8
              obtain ⟨k1, k2, k3, k4, l1, l2⟩ := hq.cel
              dsimp only at k1 k2 k3 k4
              go_wp2_with (first
                | (at_builtin; refine Quad.appR hq _ _ rfl _ _ rfl rfl rfl (by first | omega | (simp only [List.length_append, List.length_cons, List.length_nil]; omega)) ?_; clear hq k1 k2 k3 k4 l1 l2; intro v9 w9 hq; obtain ⟨k1, k2, k3, k4, l1, l2⟩ := hq.cel; dsimp only at k1 k2 k3 k4)
                | (at_builtin; refine Quad.appE hq _ rfl _ _ rfl rfl rfl (by first | omega | (simp only [List.length_append, List.length_cons, List.length_nil]; omega)) ?_; clear hq k1 k2 k3 k4 l1 l2; intro v9 w9 hq; obtain ⟨k1, k2, k3, k4, l1, l2⟩ := hq.cel; dsimp only at k1 k2 k3 k4))
              go_roundw
              case rel => exact ⟨k + 1, by omega, by go_num, by rw [HE2.out, HR2.out]; first | exact hq.1 | (simpa using hq.1)⟩
              case measure => simp [intOf]; omega
            · have HQ3 := Lib.hid q3
              have e5 : (u * (b2 - a2) == (b1 - a1) * (y - a2)) = false := by rw [beq_eq_false_iff_ne]; exact q3
              clear q3
              have HCR : crossB y (a1, a2) (b1, b2) = true := by unfold crossB; dsimp only; rw [e3, e4]; rfl
              have HE2 := Lib.hid (HE.out.trans (show es ++ eE y (a1, a2) (b1, b2) = es ++ [a1 + u] by unfold eE; rw [HCR]; simp [hu]))
              have R1 : eR1 y (a1, a2) (b1, b2) = [] := if_neg HQ1.out
              have R2 : eR2 y (a1, a2) (b1, b2) = [] := if_neg (fun h => HQ1.out h.1)
              have R3 : eR3 y (a1, a2) (b1, b2) = [] := by unfold eR3; rw [hu]; exact if_neg (fun h => HQ3.out h.2)
              have HR2 := Lib.hid (HRR.out.trans (show rs ++ eR y (a1, a2) (b1, b2) = rs by unfold eR; rw [R1, R2, R3]; simp))
              clear R1 R2 R3
              clear HE HRR HCR hu hwy
              go_wp2_with (first
                | (at_builtin; refine Quad.appR hq _ _ rfl _ _ rfl rfl rfl (by first | omega | (simp only [List.length_append, List.length_cons, List.length_nil]; omega)) ?_; clear hq k1 k2 k3 k4 l1 l2; intro v9 w9 hq; obtain ⟨k1, k2, k3, k4, l1, l2⟩ := hq.cel; dsimp only at k1 k2 k3 k4)
                | (at_builtin; refine Quad.appE hq _ rfl _ _ rfl rfl rfl (by first | omega | (simp only [List.length_append, List.length_cons, List.length_nil]; omega)) ?_; clear hq k1 k2 k3 k4 l1 l2; intro v9 w9 hq; obtain ⟨k1, k2, k3, k4, l1, l2⟩ := hq.cel; dsimp only at k1 k2 k3 k4))
              refine (cC2.out _).mono ?_
              rintro e w8 ⟨rfl, hb8⟩
              replace hq := hq.below hb8
              clear k1 k2 k3 k4 l1 l2 hb8
              obtain ⟨k1, k2, k3, k4, l1, l2⟩ := hq.cel
              dsimp only at k1 k2 k3 k4
              go_wp2_with (first
                | (at_builtin; refine Quad.appR hq _ _ rfl _ _ rfl rfl rfl (by first | omega | (simp only [List.length_append, List.length_cons, List.length_nil]; omega)) ?_; clear hq k1 k2 k3 k4 l1 l2; intro v9 w9 hq; obtain ⟨k1, k2, k3, k4, l1, l2⟩ := hq.cel; dsimp only at k1 k2 k3 k4)
                | (at_builtin; refine Quad.appE hq _ rfl _ _ rfl rfl rfl (by first | omega | (simp only [List.length_append, List.length_cons, List.length_nil]; omega)) ?_; clear hq k1 k2 k3 k4 l1 l2; intro v9 w9 hq; obtain ⟨k1, k2, k3, k4, l1, l2⟩ := hq.cel; dsimp only at k1 k2 k3 k4))
              go_roundw
              case rel => exact ⟨k + 1, by omega, by go_num, by rw [HE2.out, HR2.out]; first | exact hq.1 | (simpa using hq.1)⟩
              case measure => simp [intOf]; omega
        · have e3 : decide (y < a2) = false := decide_eq_false h3
          clear h3
          by_cases h4 : y < b2
          · have e4 : decide (y < b2) = true := decide_eq_true h4
            clear h4
            have hd0 : b2 - a2 ≠ 0 := by intro h; have h1 : b2 = a2 := by omega
                                         subst h1; rw [e3] at e4; cases e4
            obtain ⟨ub1, ub2, ub3, ub4⟩ := HUB.out hd0
            obtain ⟨wb1, wb2⟩ := HWB.out
            obtain ⟨u, hu⟩ : ∃ u, upI y (a1, a2) (b1, b2) = u := ⟨_, rfl⟩
            have cC2 := Lib.hid fun W => cC.out (wayI y (a1, a2) (b1, b2)) (b2 - a2) W (by omega) (by omega) hd0
            have hux : cei (wayI y (a1, a2) (b1, b2)) (b2 - a2) = u := hu
            rw [hux] at cC2
            clear hux
            rw [hu] at ub1 ub2 ub3 ub4
            have hwy : wayI y (a1, a2) (b1, b2) = (b1 - a1) * (y - a2) := rfl
            rw [hwy] at cC2 wb1 wb2
            dsimp only at ub3 ub4
            have HD0 := Lib.hid hd0
            clear hd0
            by_cases q3 : u * (b2 - a2) = (b1 - a1) * (y - a2)
            · have HQ3 := Lib.hid q3
              have e5 : (u * (b2 - a2) == (b1 - a1) * (y - a2)) = true := by rw [beq_iff_eq]; exact q3
              clear q3
              have HCR : crossB y (a1, a2) (b1, b2) = true := by unfold crossB; dsimp only; rw [e3, e4]; rfl
              have HE2 := Lib.hid (HE.out.trans (show es ++ eE y (a1, a2) (b1, b2) = es ++ [a1 + u] by unfold eE; rw [HCR]; simp [hu]))
              have R1 : eR1 y (a1, a2) (b1, b2) = [] := if_neg HQ1.out
              have R2 : eR2 y (a1, a2) (b1, b2) = [] := if_neg (fun h => HQ1.out h.1)
              have R3 : eR3 y (a1, a2) (b1, b2) = [(a1 + u, a1 + u + 1)] := by unfold eR3; rw [hu]; exact if_pos ⟨HCR, HQ3.out⟩
              have HR2 := Lib.hid (HRR.out.trans (show rs ++ eR y (a1, a2) (b1, b2) = rs ++ [(a1 + u, a1 + u + 1)] by unfold eR; rw [R1, R2, R3]; simp))
              clear R1 R2 R3
              clear HE HRR HCR hu hwy
              go_wp2_with (first
                | (at_builtin; refine Quad.appR hq _ _ rfl _ _ rfl rfl rfl (by first | omega | (simp only [List.length_append, List.length_cons, List.length_nil]; omega)) ?_; clear hq k1 k2 k3 k4 l1 l2; intro v9 w9 hq; obtain ⟨k1, k2, k3, k4, l1, l2⟩ := hq.cel; dsimp only at k1 k2 k3 k4)
                | (at_builtin; refine Quad.appE hq _ rfl _ _ rfl rfl rfl (by first | omega | (simp only [List.length_append, List.length_cons, List.length_nil]; omega)) ?_; clear hq k1 k2 k3 k4 l1 l2; intro v9 w9 hq; obtain ⟨k1, k2, k3, k4, l1, l2⟩ := hq.cel; dsimp only at k1 k2 k3 k4))
              refine (cC2.out _).mono ?_
              rintro e w8 ⟨rfl, hb8⟩
              replace hq := hq.below hb8
              clear k1 k2 k3 k4 l1 l2 hb8
              obtain ⟨k1, k2, k3, k4, l1, l2⟩ := hq.cel
              dsimp only at k1 k2 k3 k4
              go_wp2_with (first
                | (at_builtin; refine Quad.appR hq _ _ rfl _ _ rfl rfl rfl (by first | omega | (simp only [List.length_append, List.length_cons, List.length_nil]; omega)) ?_; clear hq k1 k2 k3 k4 l1 l2; intro v9 w9 hq; obtain ⟨k1, k2, k3, k4, l1, l2⟩ := hq.cel; dsimp only at k1 k2 k3 k4)
                | (at_builtin; refine Quad.appE hq _ rfl _ _ rfl rfl rfl (by first | omega | (simp only [List.length_append, List.length_cons, List.length_nil]; omega)) ?_; clear hq k1 k2 k3 k4 l1 l2; intro v9 w9 hq; obtain ⟨k1, k2, k3, k4, l1, l2⟩ := hq.cel; dsimp only at k1 k2 k3 k4))
              go_roundw
              case rel => exact ⟨k + 1, by omega, by go_num, by rw [HE2.out, HR2.out]; first | exact hq.1 | (simpa using hq.1)⟩
              case measure => simp [intOf]; omega
            · have HQ3 := Lib.hid q3
              have e5 : (u * (b2 - a2) == (b1 - a1) * (y - a2)) = false := by rw [beq_eq_false_iff_ne]; exact q3
              clear q3
              have HCR : crossB y (a1, a2) (b1, b2) = true := by unfold crossB; dsimp only; rw [e3, e4]; rfl
              have HE2 := Lib.hid (HE.out.trans (show es ++ eE y (a1, a2) (b1, b2) = es ++ [a1 + u] by unfold eE; rw [HCR]; simp [hu]))
              have R1 : eR1 y (a1, a2) (b1, b2) = [] := if_neg HQ1.out
              have R2 : eR2 y (a1, a2) (b1, b2) = [] := if_neg (fun h => HQ1.out h.1)
              have R3 : eR3 y (a1, a2) (b1, b2) = [] := by unfold eR3; rw [hu]; exact if_neg (fun h => HQ3.out h.2)
              have HR2 := Lib.hid (HRR.out.trans (show rs ++ eR y (a1, a2) (b1, b2) = rs by unfold eR; rw [R1, R2, R3]; simp))
              clear R1 R2 R3
              clear HE HRR HCR hu hwy
              go_wp2_with (first
                | (at_builtin; refine Quad.appR hq _ _ rfl _ _ rfl rfl rfl (by first | omega | (simp only [List.length_append, List.length_cons, List.length_nil]; omega)) ?_; clear hq k1 k2 k3 k4 l1 l2; intro v9 w9 hq; obtain ⟨k1, k2, k3, k4, l1, l2⟩ := hq.cel; dsimp only at k1 k2 k3 k4)
                | (at_builtin; refine Quad.appE hq _ rfl _ _ rfl rfl rfl (by first | omega | (simp only [List.length_append, List.length_cons, List.length_nil]; omega)) ?_; clear hq k1 k2 k3 k4 l1 l2; intro v9 w9 hq; obtain ⟨k1, k2, k3, k4, l1, l2⟩ := hq.cel; dsimp only at k1 k2 k3 k4))
              refine (cC2.out _).mono ?_
              rintro e w8 ⟨rfl, hb8⟩
              replace hq := hq.below hb8
              clear k1 k2 k3 k4 l1 l2 hb8
              obtain ⟨k1, k2, k3, k4, l1, l2⟩ := hq.cel
              dsimp only at k1 k2 k3 k4
              go_wp2_with (first
                | (at_builtin; refine Quad.appR hq _ _ rfl _ _ rfl rfl rfl (by first | omega | (simp only [List.length_append, List.length_cons, List.length_nil]; omega)) ?_; clear hq k1 k2 k3 k4 l1 l2; intro v9 w9 hq; obtain ⟨k1, k2, k3, k4, l1, l2⟩ := hq.cel; dsimp only at k1 k2 k3 k4)
                | (at_builtin; refine Quad.appE hq _ rfl _ _ rfl rfl rfl (by first | omega | (simp only [List.length_append, List.length_cons, List.length_nil]; omega)) ?_; clear hq k1 k2 k3 k4 l1 l2; intro v9 w9 hq; obtain ⟨k1, k2, k3, k4, l1, l2⟩ := hq.cel; dsimp only at k1 k2 k3 k4))
              go_roundw
              case rel => exact ⟨k + 1, by omega, by go_num, by rw [HE2.out, HR2.out]; first | exact hq.1 | (simpa using hq.1)⟩
              case measure => simp [intOf]; omega
          · have e4 : decide (y < b2) = false := decide_eq_false h4
            clear h4
            have HCR : crossB y (a1, a2) (b1, b2) = false := by unfold crossB; dsimp only; rw [e3, e4]; rfl
            have HE2 := Lib.hid (HE.out.trans (show es ++ eE y (a1, a2) (b1, b2) = es by unfold eE; rw [HCR]; simp))
            have R1 : eR1 y (a1, a2) (b1, b2) = [] := if_neg HQ1.out
            have R2 : eR2 y (a1, a2) (b1, b2) = [] := if_neg (fun h => HQ1.out h.1)
            have R3 : eR3 y (a1, a2) (b1, b2) = [] := by unfold eR3; rw [if_neg]; intro h; rw [HCR] at h; exact absurd h.1 (by decide)
            have HR2 := Lib.hid (HRR.out.trans (show rs ++ eR y (a1, a2) (b1, b2) = rs by unfold eR; rw [R1, R2, R3]; simp))
            clear R1 R2 R3
            clear HE HRR HCR
            go_wp2_with (first
              | (at_builtin; refine Quad.appR hq _ _ rfl _ _ rfl rfl rfl (by first | omega | (simp only [List.length_append, List.length_cons, List.length_nil]; omega)) ?_; clear hq k1 k2 k3 k4 l1 l2; intro v9 w9 hq; obtain ⟨k1, k2, k3, k4, l1, l2⟩ := hq.cel; dsimp only at k1 k2 k3 k4)
              | (at_builtin; refine Quad.appE hq _ rfl _ _ rfl rfl rfl (by first | omega | (simp only [List.length_append, List.length_cons, List.length_nil]; omega)) ?_; clear hq k1 k2 k3 k4 l1 l2; intro v9 w9 hq; obtain ⟨k1, k2, k3, k4, l1, l2⟩ := hq.cel; dsimp only at k1 k2 k3 k4))
            go_roundw
            case rel => exact ⟨k + 1, by omega, by go_num, by rw [HE2.out, HR2.out]; first | exact hq.1 | (simpa using hq.1)⟩
            case measure => simp [intOf]; omega
    · obtain rfl : k = l.length := by omega
      have le := HLE.out l.length
      have lr := HLR.out l.length
      have HRL := Lib.hid (show rowL l y = if (insL l y).length = 0 then [] else minusL (insL l y) (edgesTo l y l.length) from rfl)
      have HIL := Lib.hid (show insL l y = insTo (srtI (endsTo l y l.length)) ((srtI (endsTo l y l.length)).length / 2) from rfl)
      have hsl := srtI_len (endsTo l y l.length)
      have cS := Lib.hid (hduo.sorted (by omega))
      clear hduo
      generalize edgesTo l y l.length = rs at *
      generalize srtI (endsTo l y l.length) = S at *
      have hS0 : S.length ≤ 4096 := by omega
      clear hsl le HLE HLR
      generalize insL l y = J at *
      generalize rowL l y = RES at *
      go_wp2_with fail
      refine cS.out.mono ?_
      rintro e w5 ⟨rfl, A5, c5, A6, c6, rfl, hRS, rfl, hRR, hb5⟩
      clear cS cE cC HV hy1 hy2
      have HRS := Lib.hid hRS
      have HRR := Lib.hid hRR
      clear hRS hRR
      go_wp2_with fail
      go_loopw [14, 15] (fun v14 v15 wx => ∃ (m p : Nat), Hid (p = 2 * m) ∧ p ≤ S.length ∧ m ≤ p ∧ v15 = .int .i64 ((p + 1 : Nat) : Int) ∧ OwnR 52 wx w5.heap.size v14 (insTo S m) ∧ Below w5.heap.size w5 wx) (fun _ i _ => S.length + 2 - (intOf i).toNat)
      case atStart => exact ⟨0, 0, Lib.hid rfl, by omega, by omega, rfl, Own.nil _ _, Below.refl _ _⟩
      case round =>
        obtain ⟨m, p, hp, hps, hmp, rfl, hown, hbx⟩ := hrel
        have hil := insTo_len S m
        have hp0 : (0 : Int) ≤ (p : Int) := by omega
        by_cases hps2 : p + 1 < S.length
        · obtain ⟨b, off, rfl, hb, hc⟩ := RdI.getAll HRS.out hbx hps2
          have h1 := hc p (by omega)
          have h2 := hc (p + 1) hps2
          have hbr : b < wr.heap.size := Nat.lt_of_lt_of_le hb hbx.size
          have HSt := Lib.hid (show insTo S (m + 1) = insTo S m ++ (if S[p]! < S[p + 1]! then [(S[p]!, S[p + 1]!)] else []) by rw [hp.out]; rfl)
          have hpi : (p : Int) + 1 < (S.length : Int) := by omega
          have hpj : (p : Int) < (S.length : Int) := by omega
          have hp1 : (0 : Int) ≤ (p : Int) + 1 := by omega
          have hd : decide ((p : Int) + 1 < (S.length : Int)) = true := decide_eq_true hpi
          have hpw : IntKind.i64.wrap (p : Int) = (p : Int) := IntWalk.i64_in _ (by omega)
          have HCC := Lib.hid fun (W : World) (hW : Below w5.heap.size w5 W) => (show W.cell? ⟨b, off + p, none⟩ = some (.int .i64 S[p]!) ∧ W.cell? ⟨b, off + (p + 1), none⟩ = some (.int .i64 S[p + 1]!) from ⟨(hW.cell (p := ⟨b, off + p, none⟩) hb).trans ((hbx.cell (p := ⟨b, off + p, none⟩) hb).symm.trans h1), (hW.cell (p := ⟨b, off + (p + 1), none⟩) hb).trans ((hbx.cell (p := ⟨b, off + (p + 1), none⟩) hb).symm.trans h2)⟩)
          clear hc
          generalize S[p]! = lo at *
          generalize S[p + 1]! = hi at *
          obtain ⟨out, hout⟩ : ∃ x, insTo S m = x := ⟨_, rfl⟩
          rw [hout] at hown hil HSt
          clear hout
          by_cases hlh : lo < hi
          · have hdl : decide (lo < hi) = true := decide_eq_true hlh
            have HS2 := Lib.hid (HSt.out.trans (by rw [if_pos hlh]))
            clear HSt
            go_wp2_with fail
            go_quiet (fail)
            go_upto_region 25 with fail
            have HC := Lib.hid fun (W : World) (hW : Below w5.heap.size w5 W) => (show W.cell? ⟨b, off + p, none⟩ = some (.int .i64 lo) ∧ W.cell? ⟨b, off + (p + 1), none⟩ = some (.int .i64 hi) from HCC.out W hW)
            refine wp_region_held_drew (S := fun W : World => Below w5.heap.size w5 W) (by kernel_rfl) (by exact below_drewN (below_drewN hbx _) 1) (fun hHeld => ?_)
            clear hHeld
            have hS0 : (fun W : World => Below w5.heap.size w5 W) (wr.drewN nq).drew := below_drewN (below_drewN hbx _) 1
            have fO : OwnR 52 (wr.drewN nq).drew w5.heap.size _ out := Own.drewN (Own.drewN hown _) 1
            generalize (wr.drewN nq).drew = wz at *
            refine wpAnyH_take (i := 0) (oi := ⟨some 137, _, _, _, _, _⟩) (v := ?vra1) rfl (by kernel_rfl) (by kernel_rfl) (by kernel_rfl) (fun _ _ _ h => h) (Or.inl ⟨by kernel_rfl, ?hyra1⟩) (by assumption) ?restra1
            case hyra1 => (intro W hSw; (try dsimp only at hSw); go_simp; try with_reducible rfl)
            case' restra1 => try simp only [Act.put, List.setIfInBounds_toArray, List.set_cons_zero, List.set_cons_succ]
            refine wpAnyH_take (i := 1) (oi := ⟨some 138, _, _, _, _, _⟩) (v := ?vra2) rfl (by kernel_rfl) (by kernel_rfl) (by kernel_rfl) (fun _ _ _ h => h) (Or.inl ⟨by kernel_rfl, ?hyra2⟩) (by assumption) ?restra2
            case hyra2 => (intro W hSw; (try dsimp only at hSw); go_simp; try with_reducible rfl)
            case' restra2 => try simp only [Act.put, List.setIfInBounds_toArray, List.set_cons_zero, List.set_cons_succ]
            refine wpAnyH_take (i := 2) (oi := ⟨some 139, _, _, _, _, _⟩) (v := ?vra3) rfl (by kernel_rfl) (by kernel_rfl) (by kernel_rfl) (fun _ _ _ h => h) (Or.inl ⟨by kernel_rfl, ?hyra3⟩) (by assumption) ?restra3
            case hyra3 => (intro W hSw; (try dsimp only at hSw); go_simp; try with_reducible rfl)
            case' restra3 => try simp only [Act.put, List.setIfInBounds_toArray, List.set_cons_zero, List.set_cons_succ]
            refine wpAnyH_take (i := 3) (oi := ⟨some 140, _, _, _, _, _⟩) (v := ?vra4) rfl (by kernel_rfl) (by kernel_rfl) (by kernel_rfl) (fun _ _ _ h => h) (Or.inl ⟨by kernel_rfl, ?hyra4⟩) (by assumption) ?restra4
            case hyra4 => (intro W hSw; (try dsimp only at hSw); go_simp; try with_reducible rfl)
            case' restra4 => try simp only [Act.put, List.setIfInBounds_toArray, List.set_cons_zero, List.set_cons_succ]
            refine wpAnyH_take (i := 4) (oi := ⟨some 141, _, _, _, _, _⟩) (v := ?vra5) rfl (by kernel_rfl) (by kernel_rfl) (by kernel_rfl) (fun _ _ _ h => h) (Or.inl ⟨by kernel_rfl, ?hyra5⟩) (by assumption) ?restra5
            case hyra5 => (intro W hSw; (try dsimp only at hSw); go_simp; try with_reducible rfl)
            case' restra5 => try simp only [Act.put, List.setIfInBounds_toArray, List.set_cons_zero, List.set_cons_succ]
            refine wpAnyH_take (i := 5) (oi := ⟨some 142, _, _, _, _, _⟩) (v := ?vra6) rfl (by kernel_rfl) (by kernel_rfl) (by kernel_rfl) (fun _ _ _ h => h) (Or.inl ⟨by kernel_rfl, ?hyra6⟩) (by assumption) ?restra6
            case hyra6 => (intro W hSw; obtain ⟨k1, k2⟩ := HC.out W hSw; clear hSw; (try dsimp only at hSw); go_simp; try with_reducible rfl)
            case' restra6 => try simp only [Act.put, List.setIfInBounds_toArray, List.set_cons_zero, List.set_cons_succ]
            refine wpAnyH_take (i := 6) (oi := ⟨some 143, _, _, _, _, _⟩) (v := ?vra7) rfl (by kernel_rfl) (by kernel_rfl) (by kernel_rfl) (fun _ _ _ h => h) (Or.inl ⟨by kernel_rfl, ?hyra7⟩) (by assumption) ?restra7
            case hyra7 => (intro W hSw; (try dsimp only at hSw); go_simp; try with_reducible rfl)
            case' restra7 => try simp only [Act.put, List.setIfInBounds_toArray, List.set_cons_zero, List.set_cons_succ]
            refine wpAnyH_take (i := 7) (oi := ⟨some 144, _, _, _, _, _⟩) (v := ?vra8) rfl (by kernel_rfl) (by kernel_rfl) (by kernel_rfl) (fun _ _ _ h => h) (Or.inl ⟨by kernel_rfl, ?hyra8⟩) (by assumption) ?restra8
            case hyra8 => (intro W hSw; (try dsimp only at hSw); go_simp; try with_reducible rfl)
            case' restra8 => try simp only [Act.put, List.setIfInBounds_toArray, List.set_cons_zero, List.set_cons_succ]
            refine wpAnyH_take (i := 8) (oi := ⟨some 145, _, _, _, _, _⟩) (v := ?vra9) rfl (by kernel_rfl) (by kernel_rfl) (by kernel_rfl) (fun _ _ _ h => h) (Or.inl ⟨by kernel_rfl, ?hyra9⟩) (by assumption) ?restra9
            case hyra9 => (intro W hSw; (try dsimp only at hSw); go_simp; try with_reducible rfl)
            case' restra9 => try simp only [Act.put, List.setIfInBounds_toArray, List.set_cons_zero, List.set_cons_succ]
            refine wpAnyH_take (i := 9) (oi := ⟨some 146, _, _, _, _, _⟩) (v := ?vra10) rfl (by kernel_rfl) (by kernel_rfl) (by kernel_rfl) (fun _ _ _ h => h) (Or.inl ⟨by kernel_rfl, ?hyra10⟩) (by assumption) ?restra10
            case hyra10 => (intro W hSw; obtain ⟨k1, k2⟩ := HC.out W hSw; clear hSw; (try dsimp only at hSw); go_simp; try with_reducible rfl)
            case' restra10 => try simp only [Act.put, List.setIfInBounds_toArray, List.set_cons_zero, List.set_cons_succ]
            refine wpAnyH_take (i := 10) (oi := ⟨some 147, _, _, _, _, _⟩) (v := ?vra11) rfl (by kernel_rfl) (by kernel_rfl) (by kernel_rfl) (fun _ _ _ h => h) (Or.inl ⟨by kernel_rfl, ?hyra11⟩) (by assumption) ?restra11
            case hyra11 => (intro W hSw; (try dsimp only at hSw); go_simp; try with_reducible rfl)
            case' restra11 => try simp only [Act.put, List.setIfInBounds_toArray, List.set_cons_zero, List.set_cons_succ]
            refine wpAnyH_ready (rs := [11]) (by kernel_rfl) (by simp) ?_
            refine AllReadyH.cons (o := ⟨some 148, _, _, _, _, _⟩) rfl (fun K hK => ?_) AllReadyH.nil
            go_simp
            have hSlit := hS0.alloc hS0.size (.cells #[.int .i64 lo, .int .i64 hi] 52)
            refine hK.out _ _ hSlit (fun hHeld => ?_)
            clear hK hHeld K
            try simp only [Act.put, List.setIfInBounds_toArray, List.set_cons_zero, List.set_cons_succ]
            refine wpAnyH_ready (rs := [12]) (by kernel_rfl) (by simp) ?_
            refine AllReadyH.cons (o := ⟨some 149, _, _, _, _, _⟩) rfl (fun K hK => ?_) AllReadyH.nil
            refine Try.stepR fO lo hi rfl _ _ rfl rfl rfl (by omega) hS0.size ?_
            intro v9 Wra1 fO2 hb9
            have hSWra1 := hS0.trans hb9
            clear fO hb9 hSlit hS0
            refine hK.out _ _ hSWra1 (fun hHeld => ?_)
            clear hK hHeld K
            try simp only [Act.put, List.setIfInBounds_toArray, List.set_cons_zero, List.set_cons_succ]
            refine wpAnyH_take (i := 13) (oi := ⟨some 14, _, _, _, _, _⟩) (v := ?vra12) rfl (by kernel_rfl) (by kernel_rfl) (by kernel_rfl) (fun _ _ _ h => h) (Or.inl ⟨by kernel_rfl, ?hyra12⟩) (by assumption) ?restra12
            case hyra12 => (intro W hSw; (try dsimp only at hSw); go_simp; try with_reducible rfl)
            case' restra12 => try simp only [Act.put, List.setIfInBounds_toArray, List.set_cons_zero, List.set_cons_succ]
            refine wpAnyH_done (by kernel_rfl) ?_ _
            go_wp2_with fail
            go_roundw
            case rel => exact ⟨m + 1, p + 2, Lib.hid (by rw [hp.out]; omega), by omega, by omega, by go_num, by rw [HS2.out]; exact fO2, hSWra1⟩
            case measure => simp [intOf]; omega
          · have hdl : decide (lo < hi) = false := decide_eq_false hlh
            have HS2 := Lib.hid (HSt.out.trans (by rw [if_neg hlh, List.append_nil]))
            clear HSt
            go_wp2_with fail
            go_quiet (fail)
            go_wp2
            go_roundw
            case rel => exact ⟨m + 1, p + 2, Lib.hid (by rw [hp.out]; omega), by omega, by omega, by go_num, by rw [HS2.out]; exact Own.drewN hown _, below_drewN hbx _⟩
            case measure => simp [intOf]; omega
        · have hd : decide ((p : Int) + 1 < (S.length : Int)) = false := decide_eq_false (by omega)
          have hm : m = S.length / 2 := by have := hp.out; omega
          have HJ := Lib.hid (show J = insTo S m by rw [HIL.out, hm])
          clear hm
          obtain ⟨out, hout⟩ : ∃ x, insTo S m = x := ⟨_, rfl⟩
          rw [hout] at hown hil HJ
          clear hout
          obtain ⟨B, d, rfl⟩ := Own.slice hown
          have hbz := hb5.trans (hbx.mono hb5.size)
          by_cases h0 : out.length = 0
          · have HRES := Lib.hid (show RES = [] by rw [HRL.out, HJ.out]; exact if_pos h0)
            have e0 : ((out.length : Int) == 0) = true := by rw [beq_iff_eq]; omega
            have H0 := Lib.hid h0
            clear h0
            go_wp2
            go_ret
            rw [HRES.out]
            exact ⟨none, 0, rfl, Rd.nil _, hbz⟩
          · have HRES := Lib.hid (show RES = minusL out rs by rw [HRL.out, HJ.out]; exact if_neg h0)
            have e0 : ((out.length : Int) == 0) = false := by rw [beq_eq_false_iff_ne]; omega
            have cM := Lib.hid (span_minus B A6 d c6 out rs wr (by omega) (by omega) (Own.rd encR_len hown) (HRR.out.below hbx))
            clear h0
            go_wp2_with fail
            refine cM.out.mono ?_
            rintro e w9 ⟨A9, c9, rfl, hR9, hb9⟩
            have hbz9 := hbz.trans (hb9.mono hbz.size)
            go_wp2
            go_ret
            rw [HRES.out]
            exact ⟨A9, c9, rfl, hR9, hbz9⟩
end Go.Proofs
