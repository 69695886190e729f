/- ContourEdges, walked. -/
import Derived.Test.YtcfhhkdjdpkjpaaXJ15
set_option linter.unusedVariables false
set_option linter.unusedSimpArgs false
namespace Go.Proofs
open Go.RowKit Go.Proofs.Mp Go.Lib

/-- a list of lines: a line's cells, and its points, from here on -/
theorem LnD.at_ {w : World} {A : Option Addr} {n c : Nat} {L : List Ln} (h : LnD w (.slice A n c) L) {i : Nat} (hi : i < L.length) : ∃ b off g cap, A = some ⟨b, off, none⟩ ∧
    ∀ W', Below w.heap.size w W' → W'.cell? ⟨b, off + i * 2, none⟩ = some (.int .i64 L[i]!.1) ∧ W'.cell? ⟨b, off + i * 2 + 1, none⟩ = some (.slice (some ⟨g, 0, none⟩) L[i]!.2.length cap) ∧ Rd 2 encR W' (some ⟨g, 0, none⟩) L[i]!.2 := by
  obtain ⟨A', c', vs, e, hl, hR, hA⟩ := h
  injection e with e1 e2 e3
  subst e1 e3
  clear e2
  obtain ⟨g, cap, ev, _, hg, hp⟩ := hA i (by omega)
  obtain ⟨b, off, rfl, hb, hc⟩ := Rd.at_ hR (j := i) (by omega)
  refine ⟨b, off, g, cap, rfl, fun W' hW => ?_⟩
  have c1 := hc i (by omega) 0 (.int .i64 vs[i]!.1) rfl
  have c2 := hc i (by omega) 1 vs[i]!.2 rfl
  rw [ev] at c1 c2
  exact ⟨(hW.cell (p := ⟨b, off + i * 2, none⟩) hb).trans c1, (hW.cell (p := ⟨b, off + i * 2 + 1, none⟩) hb).trans c2, hp.below hW⟩
theorem Rd.cells0 {W : World} {g k : Nat} {xs : List Pt} (h : Rd 2 encR W (some ⟨g, 0, none⟩) xs) (hk : k < xs.length) : W.cell? ⟨g, k * 2, none⟩ = some (.int .i64 xs[k]!.1) ∧ W.cell? ⟨g, k * 2 + 1, none⟩ = some (.int .i64 xs[k]!.2) := by
  obtain ⟨b, off, e, _, h2, h3⟩ := RdR.get h (Below.refl _ _) hk
  injection e with e
  injection e with e1 e2
  subst e1 e2
  rw [Nat.zero_add] at h2 h3
  exact ⟨h2, h3⟩
/-- a row of integers, from here on -/
theorem RdI.at_ {w : World} {A : Option Addr} {xs : List Int} (h : RdI w A xs) {i : Nat} (hi : i < xs.length) : ∃ b off, A = some ⟨b, off, none⟩ ∧ ∀ W', Below w.heap.size w W' → W'.cell? ⟨b, off + i, none⟩ = some (.int .i64 xs[i]!) := by
  obtain ⟨b, off, h1, _, h2⟩ := RdI.all h (by omega)
  exact ⟨b, off, h1, fun W' hW => h2 W' hW i hi⟩
/-- whether a point is among the first m edges' points -/
def fndT (f : Nat → Pt) (E : List Nat) (P : Pt) (m : Nat) : Bool := (E.take m).any fun e => decide (f e = P)
theorem fndT_succ {f : Nat → Pt} {E : List Nat} {P : Pt} {m : Nat} (h : m < E.length) : fndT f E P (m + 1) = (fndT f E P m || decide (f E[m]! = P)) := by
  unfold fndT
  rw [List.take_add_one, List.any_append, List.getElem?_eq_getElem h, getElem!_pos E m h]
  simp
theorem fndT_all {f : Nat → Pt} {E : List Nat} {P : Pt} (h : ∃ e ∈ E, f e = P) {N : Nat} (hN : N = E.length) : fndT f E P N = true := by
  subst hN
  unfold fndT
  rw [List.take_length, List.any_eq_true]
  obtain ⟨e, he, hp⟩ := h
  exact ⟨e, he, decide_eq_true hp⟩

set_option maxRecDepth 100000 in
set_option maxHeartbeats 16000000 in
theorem law_edges (t : Ht) (level : Int) (w : World) (hmax : t.v.length ≤ 9223372036854775807) (hR : RdI w t.a t.v) : Calls Try.prog 6 #[aggH t, .int .i64 level] w (RetV w (.bool true)) := by
  have hb0 : Below w.heap.size w (w.alloc (.cells (celH t) 26)) := bw1 _ _
  have hrow0 := RowH.new w t
  have cA := Lib.hid law_awake
  have HRow := Lib.hid fun (W' : World) (hb : Below (w.alloc (.cells (celH t) 26)).heap.size (w.alloc (.cells (celH t) 26)) W') => hrow0.below hb
  have HWz := Lib.hid fun (W' : World) (hb : Below (w.alloc (.cells (celH t) 26)).heap.size (w.alloc (.cells (celH t) 26)) W') => (hb0.trans (hb.mono hb0.size) : Below w.heap.size w W')
  have cF := Lib.hid fun W => law_few t W hmax
  by_cases hf : fewB t = true
  rotate_left
  · have hf : fewB t = false := by simpa using hf
    rw [hf] at cF
    clear hR hmax hf
    obtain ⟨x, y, tw, th, st, A, cc, v⟩ := t
    unfold aggH celH at *
    dsimp only at *
    go_enter Try.func6, Try.ntmps6
    go_upto_region 1 with fail
    generalize (w.alloc (.cells #[.int .i64 x, .int .i64 y, .int .i64 tw, .int .i64 th, .int .i64 st, .slice A v.length cc] 26)) = w0 at *
    clear hrow0 hb0
    have k : Below w0.heap.size w0 w0 := Below.refl _ _
    obtain ⟨r0, r1, r2, r3, r4, r5⟩ := (HRow.out _ k).cells
    dsimp only at r0 r1 r2 r3 r4 r5
    go_wp2_with fail
    refine (cF.out _).mono ?_
    rintro e w1 ⟨rfl, hb⟩
    replace k := k.trans (hb.mono k.size)
    clear hb
    go_wp2_with fail
    refine (cA.out _).mono ?_
    rintro e w2 ⟨rfl, hb⟩
    replace k := k.trans (hb.mono k.size)
    clear hb
    go_wp2
    go_ret
    exact RetV.bool rfl (HWz.out _ k)
  have hl := (few_len hf).2.2
  rw [hf] at cF
  clear hf
  by_cases h0 : chkH t = 0
  rotate_left
  · have e1 : linesT t level = [] := by unfold linesT; rw [if_neg h0]
    have cL := Lib.hid fun (W' : World) (hb : Below w.heap.size w W') => cl_lines (t := t) level (n := 0) (by rw [e1]; rfl) hl (hR.below hb)
    rw [e1] at cL
    clear hR hmax hl e1
    have hrn : (chkH t != 0) = true := by simpa using h0
    generalize chkH t = r at *
    obtain ⟨x, y, tw, th, st, A, cc, v⟩ := t
    unfold aggH celH at *
    dsimp only at *
    go_enter Try.func6, Try.ntmps6
    go_upto_region 1 with fail
    generalize (w.alloc (.cells #[.int .i64 x, .int .i64 y, .int .i64 tw, .int .i64 th, .int .i64 st, .slice A v.length cc] 26)) = w0 at *
    clear hrow0 hb0
    have k : Below w0.heap.size w0 w0 := Below.refl _ _
    obtain ⟨r0, r1, r2, r3, r4, r5⟩ := (HRow.out _ k).cells
    dsimp only at r0 r1 r2 r3 r4 r5
    go_wp2_with fail
    refine (cF.out _).mono ?_
    rintro e w1 ⟨rfl, hb⟩
    replace k := k.trans (hb.mono k.size)
    clear hb
    clear r0 r1 r2 r3 r4 r5
    obtain ⟨r0, r1, r2, r3, r4, r5⟩ := (HRow.out _ k).cells
    dsimp only at r0 r1 r2 r3 r4 r5
    go_wp2_with fail
    refine (cL.out _ (HWz.out _ k)).mono ?_
    rintro e w2 ⟨AL, cL, rfl, hL, hb⟩
    replace k := k.trans (hb.mono k.size)
    clear hb
    clear r0 r1 r2 r3 r4 r5 hL
    go_wp2_with fail
    refine (cA.out _).mono ?_
    rintro e w3 ⟨rfl, hb⟩
    replace k := k.trans (hb.mono k.size)
    clear hb
    go_wp2
    go_ret
    exact RetV.bool rfl (HWz.out _ k)
  have g := Grd.of h0
  obtain ⟨a1, a2, a3, a4, a5, a6, a7, a8, a9, a10, _⟩ := g.all
  have HLT := Lib.hid (show linesT t level = linesL t t.w.toNat t.h.toNat level from if_pos h0)
  have HSM := Lib.hid (linesT_small t level)
  have HLaw := Lib.hid fun i (hi : i < (linesT t level).length) => (show (linesT t level)[i]!.1 = level ∧ 2 ≤ (linesT t level)[i]!.2.length ∧ (linesT t level)[i]!.2.length ≤ 1000000000 ∧ (∀ k, k < (linesT t level)[i]!.2.length → ∃ e ∈ crsL (abv t level) t.w.toNat t.h.toNat, ptE t t.w.toNat level e = (linesT t level)[i]!.2[k]!) ∧ ((linesT t level)[i]!.2[0]! = (linesT t level)[i]!.2[(linesT t level)[i]!.2.length - 1]! ∨ (onBd t (linesT t level)[i]!.2[0]! ∧ onBd t (linesT t level)[i]!.2[(linesT t level)[i]!.2.length - 1]!)) from by
    have hm : (linesT t level)[i]! ∈ linesT t level := by rw [getElem!_pos _ i hi]; exact List.getElem_mem hi
    have hs := (smallL_iff HSM.out).2 _ hm
    rw [HLT.out] at hm hs ⊢
    obtain ⟨q1, q2, q3, q4⟩ := edges_law g hm
    exact ⟨q1, q2, hs, fun k hk => q3 _ (by rw [getElem!_pos _ k hk]; exact List.getElem_mem hk), q4⟩)
  obtain ⟨n, hn⟩ : ∃ n, (linesT t level).length = n := ⟨_, rfl⟩
  have HNl := Lib.hid hn
  have hns : n ≤ 12288 := by rw [← hn]; exact linesT_len t level
  have cL := Lib.hid fun (W' : World) (hb : Below w.heap.size w W') => cl_lines (t := t) level hn hl (hR.below hb)
  rw [h0] at cL
  have cE := Lib.hid fun (W' : World) (hb : Below w.heap.size w W') => ref_edges t _ _ level W' g (hR.below hb)
  have cP := Lib.hid fun (e : Nat) (he : crsB (abv t level) t.w.toNat t.h.toNat e = true) (W' : World) (hb : Below w.heap.size w W') => ref_Point t _ _ level e W' g he (hR.below hb)
  have HEm := Lib.hid fun m (hm : m < (crsL (abv t level) t.w.toNat t.h.toNat).length) => (show crsB (abv t level) t.w.toNat t.h.toNat (crsL (abv t level) t.w.toNat t.h.toNat)[m]! = true from by
    have hm' : (crsL (abv t level) t.w.toNat t.h.toNat)[m]! ∈ crsL (abv t level) t.w.toNat t.h.toNat := by rw [getElem!_pos _ m hm]; exact List.getElem_mem _
    exact (List.mem_filter.1 hm').2)
  have hw12 := grid_mul (w := t.w) (st := t.st) (by omega) (by omega) a7 a8
  have hh12 := grid_mul (w := t.h) (st := t.st) (by omega) (by omega) a7 a8
  have hng : 2 ≤ t.w ∧ t.w ≤ 64 ∧ 2 ≤ t.h ∧ t.h ≤ 64 := by omega
  obtain ⟨N, hN⟩ : ∃ N, (crsL (abv t level) t.w.toNat t.h.toNat).length = N := ⟨_, rfl⟩
  have hNci : (ci (crsL (abv t level) t.w.toNat t.h.toNat)).length = N := by rw [ci_len, hN]
  have hNs : N ≤ 12288 := by
    rw [← hN]
    unfold crsL
    refine Nat.le_trans (List.length_filter_le _ _) ?_
    rw [List.length_range]
    have h5 : 3 * t.w.toNat * t.h.toNat ≤ 3 * 64 * 64 := Nat.mul_le_mul (Nat.mul_le_mul_left 3 a2) a4
    omega
  have HNE := Lib.hid hN
  unfold onBd farX farY at HLaw
  unfold Vp at a9
  clear HLT HSM hR hmax hl h0 g hn a1 a2 a3 a4 a5 a6 a10 hN
  generalize linesT t level = L at *
  generalize ptE t t.w.toNat level = pf at *
  generalize crsL (abv t level) t.w.toNat t.h.toNat = E at *
  generalize crsB (abv t level) t.w.toNat t.h.toNat = CR at *
  obtain ⟨x, y, tw, th, st, A, cc, v⟩ := t
  unfold aggH celH at *
  dsimp only at *
  obtain ⟨x1b, x2b, y1b, y2b⟩ := a9
  obtain ⟨n1b, n2b, n3b, n4b⟩ := hng
  obtain ⟨p1b, p2b⟩ := hw12
  obtain ⟨q1b, q2b⟩ := hh12
  have HCi := Lib.hid hNci
  go_enter Try.func6, Try.ntmps6
  go_upto_region 1 with fail
  generalize (w.alloc (.cells #[.int .i64 x, .int .i64 y, .int .i64 tw, .int .i64 th, .int .i64 st, .slice A v.length cc] 26)) = w0 at *
  clear hrow0 hb0
  have k : Below w0.heap.size w0 w0 := Below.refl _ _
  obtain ⟨r0, r1, r2, r3, r4, r5⟩ := (HRow.out _ k).cells
  dsimp only at r0 r1 r2 r3 r4 r5
  go_wp2_with fail
  refine (cF.out _).mono ?_
  rintro e w1 ⟨rfl, hb⟩
  replace k := k.trans (hb.mono k.size)
  clear hb
  clear r0 r1 r2 r3 r4 r5
  obtain ⟨r0, r1, r2, r3, r4, r5⟩ := (HRow.out _ k).cells
  dsimp only at r0 r1 r2 r3 r4 r5
  go_wp2_with fail
  refine (cL.out _ (HWz.out _ k)).mono ?_
  rintro e w2 ⟨AL, cL, rfl, hL, hb⟩
  replace k := k.trans (hb.mono k.size)
  clear hb
  clear r0 r1 r2 r3 r4 r5
  obtain ⟨r0, r1, r2, r3, r4, r5⟩ := (HRow.out _ k).cells
  dsimp only at r0 r1 r2 r3 r4 r5
  go_wp2_with fail
  refine (cE.out _ (HWz.out _ k)).mono ?_
  rintro e w3 ⟨AE, cE', rfl, hE, hb⟩
  replace hL := hL.below hb
  replace k := k.trans (hb.mono k.size)
  clear hb
  clear r0 r1 r2 r3 r4 r5
  obtain ⟨r0, r1, r2, r3, r4, r5⟩ := (HRow.out _ k).cells
  dsimp only at r0 r1 r2 r3 r4 r5
  rw [hNci]
  have HLn := Lib.hid fun i (hi : i < n) => LnD.at_ hL (i := i) (by rw [HNl.out]; exact hi)
  have HEd := Lib.hid fun i (hi : i < N) => RdI.at_ hE (i := i) (by rw [HCi.out]; exact hi)
  clear hL hE hNci
  go_wp2_with fail
  go_quiet (fail)
  clear r0 r1 r2 r3 r4 r5
  generalize hfx : x + (tw - 1) * st = fx at *
  generalize hfy : y + (th - 1) * st = fy at *
  clear hfx hfy p1b p2b q1b q2b n1b n2b n3b n4b x1b x2b y1b y2b a7 a8
  have HK := Lib.hid k
  clear k
  go_upto_block 0 with fail
  go_wp2_with fail
  generalize w3 = wz at *
  go_loopw [10] (fun i wr => ∃ k : Nat, k ≤ n ∧ i = .int .i64 k ∧ Below wz.heap.size wz wr) (fun i _ => n - (intOf i).toNat)
  case atStart => exact ⟨0, by omega, rfl, below_drewN (Below.refl _ _) _⟩
  case round =>
    obtain ⟨k, hk, rfl, kb⟩ := hrel
    generalize wr = wa at *
    have HKa := Lib.hid kb
    clear kb
    by_cases hlt : k < n
    rotate_left
    · have hge : ¬ ((k : Int) < (n : Int)) := by omega
      go_wp2_with fail
      refine (cA.out _).mono ?_
      rintro e w7 ⟨rfl, hb⟩
      have kr := HK.out.trans ((HKa.out.trans (hb.mono HKa.out.size)).mono HK.out.size)
      go_wp2
      go_ret
      exact RetV.bool rfl (HWz.out _ kr)
    · have hli : (k : Int) < (n : Int) := by omega
      obtain ⟨b, off, g, cap, rfl, hc⟩ := HLn.out k hlt
      obtain ⟨c1, c2, -⟩ := hc wa HKa.out
      obtain ⟨m1, m2, m3, m4, m5⟩ := HLaw.out k (by rw [HNl.out]; exact hlt)
      have HP := Lib.hid fun (W' : World) (hb : Below wz.heap.size wz W') => (hc W' hb).2.2
      generalize L[k]! = l at *
      obtain ⟨lv, pts⟩ := l
      dsimp only at *
      subst m1
      obtain ⟨m, hm⟩ : ∃ m, pts.length = m := ⟨_, rfl⟩
      have HM := Lib.hid hm
      rw [hm] at c2 m2 m3 m4 m5
      have HM4 := Lib.hid m4
      have HM5 := Lib.hid m5
      have h2l : ¬ ((m : Int) < 2) := by omega
      clear hc hm m4 m5
      go_upto_block 2 with fail
      clear c1 c2
      go_wp2_with fail
      go_loopw [12] (fun i wr => ∃ j : Nat, j ≤ m ∧ i = .int .i64 j ∧ Below wz.heap.size wz wr) (fun i _ => m - (intOf i).toNat)
      case atStart => exact ⟨0, by omega, rfl, HKa.out⟩
      case round =>
        obtain ⟨j, hj, rfl, kb⟩ := hrel
        generalize wr = wj at *
        have HKj := Lib.hid kb
        clear kb
        by_cases hlj : j < m
        rotate_left
        · have hge : ¬ ((j : Int) < (m : Int)) := by omega
          go_wp2
          go_roundw
          case rel => exact ⟨k + 1, by omega, by go_num, HKj.out⟩
          case measure => simp [intOf]; omega
        · have hjl : (j : Int) < (m : Int) := by omega
          have hj0 : (0 : Int) ≤ (j : Int) := by omega
          have HPj := Lib.hid fun (W' : World) (hb : Below wz.heap.size wz W') => Rd.cells0 (HP.out W' hb) (k := j) (by rw [HM.out]; exact hlj)
          obtain ⟨⟨px, py⟩, hP⟩ : ∃ z, pts[j]! = z := ⟨_, rfl⟩
          have HPP := Lib.hid hP
          rw [hP] at HPj
          have HF1 := Lib.hid (show fndT pf E (px, py) N = true from fndT_all (by obtain ⟨e, he, hx⟩ := HM4.out j hlj; exact ⟨e, he, by rw [hx, hP]⟩) HNE.out.symm)
          dsimp only at HPj
          clear hP
          go_upto_block 4 with fail
          go_wp2_with fail
          go_loopw [13, 14] (fun f i wr => ∃ q : Nat, q ≤ N ∧ i = .int .i64 q ∧ f = .bool (fndT pf E (px, py) q) ∧ Below wz.heap.size wz wr) (fun _ i _ => N - (intOf i).toNat)
          case atStart => exact ⟨0, by omega, rfl, rfl, HKj.out⟩
          case round =>
            obtain ⟨q, hq, rfl, rfl, kb⟩ := hrel
            generalize wr = wq at *
            have HKq := Lib.hid kb
            clear kb
            have kd := HKq.out
            by_cases hlq : q < N
            · have hql : (q : Int) < (N : Int) := by omega
              have hq0 : (0 : Int) ≤ (q : Int) := by omega
              have HSuc := Lib.hid (fndT_succ (f := pf) (P := (px, py)) (show q < E.length by rw [HNE.out]; exact hlq))
              rcases hfd : fndT pf E (px, py) q with _ | _
              · rw [hfd, Bool.false_or] at HSuc
                obtain ⟨be, oe, hAE, hce⟩ := HEd.out q hlq
                have HCe := Lib.hid fun (W' : World) (hb : Below wz.heap.size wz W') => (show W'.cell? ⟨be, oe + q, none⟩ = some (.int .i64 ((E[q]! : Nat) : Int)) from by have := hce W' hb; rwa [ci_get (by rw [HNE.out]; exact hlq)] at this)
                subst hAE
                have cPq := Lib.hid fun (W' : World) (hb : Below wz.heap.size wz W') => cP.out E[q]! (HEm.out q (by rw [HNE.out]; exact hlq)) W' (HWz.out _ (HK.out.trans (hb.mono HK.out.size)))
                have HRz := Lib.hid fun (W' : World) (hb : Below wz.heap.size wz W') => (HRow.out W' (HK.out.trans (hb.mono HK.out.size))).cells
                dsimp only at HRz
                clear hce hfd
                generalize E[q]! = eq at *
                obtain ⟨⟨zx, zy⟩, hz⟩ : ∃ z, pf eq = z := ⟨_, rfl⟩
                rw [hz] at cPq HSuc
                unfold aggP at cPq
                dsimp only at cPq
                clear hz
                have HEq := Lib.hid (Try.eql23 zx zy px py)
                have hgd := Try.guard23
                go_upto_region 21 with fail
                have hS0 : (fun W' : World => Below wz.heap.size wz W') wq.drew := kd.drew
                refine wp_region_held_drew (S := (fun W' : World => Below wz.heap.size wz W')) (by kernel_rfl) hS0 (fun hHeld => ?_)
                clear hHeld
                generalize wq.drew = wy at *
                as_aux_lemma =>
                  refine wpAnyH_take (i := 0) (oi := ⟨some 92, _, _, _, _, _⟩) (v := ?vra1) rfl (by kernel_rfl) (by kernel_rfl) (by kernel_rfl) (fun _ _ _ h => h) (Or.inl ⟨by kernel_rfl, ?hyra1⟩) (by assumption) ?restra1
                  case hyra1 => (intro W hSw; (try dsimp only at hSw); go_simp; try with_reducible rfl)
                  case' restra1 => try simp only [Act.put, List.setIfInBounds_toArray, List.set_cons_zero, List.set_cons_succ]
                  refine wpAnyH_take (i := 1) (oi := ⟨some 93, _, _, _, _, _⟩) (v := ?vra2) rfl (by kernel_rfl) (by kernel_rfl) (by kernel_rfl) (fun _ _ _ h => h) (Or.inl ⟨by kernel_rfl, ?hyra2⟩) (by assumption) ?restra2
                  case hyra2 => (intro W hSw; (try dsimp only at hSw); go_simp; try with_reducible rfl)
                  case' restra2 => try simp only [Act.put, List.setIfInBounds_toArray, List.set_cons_zero, List.set_cons_succ]
                  refine wpAnyH_take (i := 2) (oi := ⟨some 94, _, _, _, _, _⟩) (v := ?vra3) rfl (by kernel_rfl) (by kernel_rfl) (by kernel_rfl) (fun _ _ _ h => h) (Or.inl ⟨by kernel_rfl, ?hyra3⟩) (by assumption) ?restra3
                  case hyra3 => (intro W hSw; obtain ⟨d0, d1, d2, d3, d4, d5⟩ := HRz.out W hSw; clear hSw; (try dsimp only at hSw); go_simp; try with_reducible rfl)
                  case' restra3 => try simp only [Act.put, List.setIfInBounds_toArray, List.set_cons_zero, List.set_cons_succ]
                  refine wpAnyH_take (i := 3) (oi := ⟨some 95, _, _, _, _, _⟩) (v := ?vra4) rfl (by kernel_rfl) (by kernel_rfl) (by kernel_rfl) (fun _ _ _ h => h) (Or.inl ⟨by kernel_rfl, ?hyra4⟩) (by assumption) ?restra4
                  case hyra4 => (intro W hSw; (try dsimp only at hSw); go_simp; try with_reducible rfl)
                  case' restra4 => try simp only [Act.put, List.setIfInBounds_toArray, List.set_cons_zero, List.set_cons_succ]
                  refine wpAnyH_take (i := 4) (oi := ⟨some 96, _, _, _, _, _⟩) (v := ?vra5) rfl (by kernel_rfl) (by kernel_rfl) (by kernel_rfl) (fun _ _ _ h => h) (Or.inl ⟨by kernel_rfl, ?hyra5⟩) (by assumption) ?restra5
                  case hyra5 => (intro W hSw; (try dsimp only at hSw); go_simp; try with_reducible rfl)
                  case' restra5 => try simp only [Act.put, List.setIfInBounds_toArray, List.set_cons_zero, List.set_cons_succ]
                  refine wpAnyH_take (i := 5) (oi := ⟨some 97, _, _, _, _, _⟩) (v := ?vra6) rfl (by kernel_rfl) (by kernel_rfl) (by kernel_rfl) (fun _ _ _ h => h) (Or.inl ⟨by kernel_rfl, ?hyra6⟩) (by assumption) ?restra6
                  case hyra6 => (intro W hSw; (try dsimp only at hSw); go_simp; try with_reducible rfl)
                  case' restra6 => try simp only [Act.put, List.setIfInBounds_toArray, List.set_cons_zero, List.set_cons_succ]
                  refine wpAnyH_take (i := 6) (oi := ⟨some 98, _, _, _, _, _⟩) (v := ?vra7) rfl (by kernel_rfl) (by kernel_rfl) (by kernel_rfl) (fun _ _ _ h => h) (Or.inl ⟨by kernel_rfl, ?hyra7⟩) (by assumption) ?restra7
                  case hyra7 => (intro W hSw; (try dsimp only at hSw); go_simp; try with_reducible rfl)
                  case' restra7 => try simp only [Act.put, List.setIfInBounds_toArray, List.set_cons_zero, List.set_cons_succ]
                  refine wpAnyH_take (i := 7) (oi := ⟨some 99, _, _, _, _, _⟩) (v := ?vra8) rfl (by kernel_rfl) (by kernel_rfl) (by kernel_rfl) (fun _ _ _ h => h) (Or.inl ⟨by kernel_rfl, ?hyra8⟩) (by assumption) ?restra8
                  case hyra8 => (intro W hSw; have d0 := HCe.out W hSw; clear hSw; (try dsimp only at hSw); go_simp; try with_reducible rfl)
                  case' restra8 => try simp only [Act.put, List.setIfInBounds_toArray, List.set_cons_zero, List.set_cons_succ]
                  refine wpAnyH_take (i := 9) (oi := ⟨some 101, _, _, _, _, _⟩) (v := ?vra9) rfl (by kernel_rfl) (by kernel_rfl) (by kernel_rfl) (fun _ _ _ h => h) (Or.inl ⟨by kernel_rfl, ?hyra9⟩) (by assumption) ?restra9
                  case hyra9 => (intro W hSw; (try dsimp only at hSw); go_simp; try with_reducible rfl)
                  case' restra9 => try simp only [Act.put, List.setIfInBounds_toArray, List.set_cons_zero, List.set_cons_succ]
                  refine wpAnyH_take (i := 10) (oi := ⟨some 102, _, _, _, _, _⟩) (v := ?vra10) rfl (by kernel_rfl) (by kernel_rfl) (by kernel_rfl) (fun _ _ _ h => h) (Or.inl ⟨by kernel_rfl, ?hyra10⟩) (by assumption) ?restra10
                  case hyra10 => (intro W hSw; (try dsimp only at hSw); go_simp; try with_reducible rfl)
                  case' restra10 => try simp only [Act.put, List.setIfInBounds_toArray, List.set_cons_zero, List.set_cons_succ]
                  refine wpAnyH_take (i := 11) (oi := ⟨some 103, _, _, _, _, _⟩) (v := ?vra11) rfl (by kernel_rfl) (by kernel_rfl) (by kernel_rfl) (fun _ _ _ h => h) (Or.inl ⟨by kernel_rfl, ?hyra11⟩) (by assumption) ?restra11
                  case hyra11 => (intro W hSw; (try dsimp only at hSw); go_simp; try with_reducible rfl)
                  case' restra11 => try simp only [Act.put, List.setIfInBounds_toArray, List.set_cons_zero, List.set_cons_succ]
                  refine wpAnyH_take (i := 12) (oi := ⟨some 104, _, _, _, _, _⟩) (v := ?vra12) rfl (by kernel_rfl) (by kernel_rfl) (by kernel_rfl) (fun _ _ _ h => h) (Or.inl ⟨by kernel_rfl, ?hyra12⟩) (by assumption) ?restra12
                  case hyra12 => (intro W hSw; obtain ⟨d0, d1⟩ := HPj.out W hSw; clear hSw; (try dsimp only at hSw); go_simp; try with_reducible rfl)
                  case' restra12 => try simp only [Act.put, List.setIfInBounds_toArray, List.set_cons_zero, List.set_cons_succ]
                  refine wpAnyH_ready (rs := [8]) (by kernel_rfl) (by simp) ?_
                  refine AllReadyH.cons (o := ⟨some 100, _, _, _, _, _⟩) rfl (fun K hK => ?_) AllReadyH.nil
                  go_simp
                  go_at_call 22
                  refine (cPq.out _ hS0).mono ?_
                  rintro e Wra1 ⟨rfl, hbWra1⟩
                  have hSWra1 := hS0.trans (hbWra1.mono hS0.size)
                  try clear hS0
                  clear hbWra1
                  go_wp2_with fail
                  refine hK.out _ _ hSWra1 (fun hHeld => ?_)
                  clear hK hHeld K
                  try simp only [Act.put, List.setIfInBounds_toArray, List.set_cons_zero, List.set_cons_succ]
                  refine wpAnyH_take (i := 13) (oi := ⟨some 105, _, _, _, _, _⟩) (v := ?vra13) rfl (by kernel_rfl) (by kernel_rfl) (by kernel_rfl) (fun _ _ _ h => h) (Or.inl ⟨by kernel_rfl, ?hyra13⟩) (by assumption) ?restra13
                  case hyra13 => (intro W hSw; have heq := HEq.out; clear hSw; (try dsimp only at hSw); go_simp; try with_reducible rfl)
                  case' restra13 => try simp only [Act.put, List.setIfInBounds_toArray, List.set_cons_zero, List.set_cons_succ]
                  refine wpAnyH_take (i := 14) (oi := ⟨some 106, _, _, _, _, _⟩) (v := ?vra14) rfl (by kernel_rfl) (by kernel_rfl) (by kernel_rfl) (fun _ _ _ h => h) (Or.inl ⟨by kernel_rfl, ?hyra14⟩) (by assumption) ?restra14
                  case hyra14 => (intro W hSw; (try dsimp only at hSw); go_simp; try with_reducible rfl)
                  case' restra14 => try simp only [Act.put, List.setIfInBounds_toArray, List.set_cons_zero, List.set_cons_succ]
                  refine wpAnyH_take (i := 15) (oi := ⟨some 13, _, _, _, _, _⟩) (v := ?vra15) rfl (by kernel_rfl) (by kernel_rfl) (by kernel_rfl) (fun _ _ _ h => h) (Or.inl ⟨by kernel_rfl, ?hyra15⟩) (by assumption) ?restra15
                  case hyra15 => (intro W hSw; (try dsimp only at hSw); go_simp; try with_reducible rfl)
                  case' restra15 => try simp only [Act.put, List.setIfInBounds_toArray, List.set_cons_zero, List.set_cons_succ]
                  refine wpAnyH_done (by kernel_rfl) ?_ _
                  go_wp2
                  go_roundw
                  case rel => exact ⟨q + 1, by omega, by go_num, by rw [HSuc.out]; simp, hSWra1⟩
                  case measure => simp [intOf]; omega
              · have HSu2 := Lib.hid (show fndT pf E (px, py) (q + 1) = true by rw [HSuc.out, hfd]; rfl)
                clear hfd HSuc
                go_wp2_with fail
                go_quiet (fail)
                go_wp2
                go_roundw
                case rel => exact ⟨q + 1, by omega, by go_num, by rw [HSu2.out], below_drewN HKq.out _⟩
                case measure => simp [intOf]; omega
            · have hge : ¬ ((q : Int) < (N : Int)) := by omega
              obtain rfl : q = N := by omega
              rw [HF1.out]
              have HRz := Lib.hid fun (W' : World) (hb : Below wz.heap.size wz W') => (HRow.out W' (HK.out.trans (hb.mono HK.out.size))).cells
              dsimp only at HRz
              clear kd
              go_upto_region 22 with fail
              go_cut [15] (fun v wx => v = .bool (decide (px = x ∨ px = fx ∨ py = y ∨ py = fy)) ∧ Below wz.heap.size wz wx)
              case first =>
                by_cases e0 : px = x
                · have HN0 := Lib.hid (show decide (px = x ∨ px = fx ∨ py = y ∨ py = fy) = true from decide_eq_true (by omega))
                  subst e0
                  as_aux_lemma =>
                    have hS0 : (fun W' : World => Below wz.heap.size wz W') wq.drew := HKq.out.drew
                    refine wp_region_held_drew (S := (fun W' : World => Below wz.heap.size wz W')) (by kernel_rfl) hS0 (fun hHeld => ?_)
                    clear hHeld
                    generalize wq.drew = wy at *
                    refine wpAnyH_take (i := 0) (oi := ⟨some 107, _, _, _, _, _⟩) (v := ?vq01) rfl (by kernel_rfl) (by kernel_rfl) (by kernel_rfl) (fun _ _ _ h => h) (Or.inl ⟨by kernel_rfl, ?hyq01⟩) (by assumption) ?restq01
                    case hyq01 => (intro W hSw; (try dsimp only at hSw); go_simp; try with_reducible rfl)
                    case' restq01 => try simp only [Act.put, List.setIfInBounds_toArray, List.set_cons_zero, List.set_cons_succ]
                    refine wpAnyH_take (i := 1) (oi := ⟨some 108, _, _, _, _, _⟩) (v := ?vq02) rfl (by kernel_rfl) (by kernel_rfl) (by kernel_rfl) (fun _ _ _ h => h) (Or.inl ⟨by kernel_rfl, ?hyq02⟩) (by assumption) ?restq02
                    case hyq02 => (intro W hSw; (try dsimp only at hSw); go_simp; try with_reducible rfl)
                    case' restq02 => try simp only [Act.put, List.setIfInBounds_toArray, List.set_cons_zero, List.set_cons_succ]
                    refine wpAnyH_take (i := 2) (oi := ⟨some 109, _, _, _, _, _⟩) (v := ?vq03) rfl (by kernel_rfl) (by kernel_rfl) (by kernel_rfl) (fun _ _ _ h => h) (Or.inl ⟨by kernel_rfl, ?hyq03⟩) (by assumption) ?restq03
                    case hyq03 => (intro W hSw; (try dsimp only at hSw); go_simp; try with_reducible rfl)
                    case' restq03 => try simp only [Act.put, List.setIfInBounds_toArray, List.set_cons_zero, List.set_cons_succ]
                    refine wpAnyH_take (i := 3) (oi := ⟨some 110, _, _, _, _, _⟩) (v := ?vq04) rfl (by kernel_rfl) (by kernel_rfl) (by kernel_rfl) (fun _ _ _ h => h) (Or.inl ⟨by kernel_rfl, ?hyq04⟩) (by assumption) ?restq04
                    case hyq04 => (intro W hSw; (try dsimp only at hSw); go_simp; try with_reducible rfl)
                    case' restq04 => try simp only [Act.put, List.setIfInBounds_toArray, List.set_cons_zero, List.set_cons_succ]
                    refine wpAnyH_take (i := 4) (oi := ⟨some 111, _, _, _, _, _⟩) (v := ?vq05) rfl (by kernel_rfl) (by kernel_rfl) (by kernel_rfl) (fun _ _ _ h => h) (Or.inl ⟨by kernel_rfl, ?hyq05⟩) (by assumption) ?restq05
                    case hyq05 => (intro W hSw; obtain ⟨s1, s2⟩ := HPj.out W hSw; clear hSw; (try dsimp only at hSw); go_simp; try with_reducible rfl)
                    case' restq05 => try simp only [Act.put, List.setIfInBounds_toArray, List.set_cons_zero, List.set_cons_succ]
                    refine wpAnyH_take (i := 5) (oi := ⟨some 112, _, _, _, _, _⟩) (v := ?vq06) rfl (by kernel_rfl) (by kernel_rfl) (by kernel_rfl) (fun _ _ _ h => h) (Or.inl ⟨by kernel_rfl, ?hyq06⟩) (by assumption) ?restq06
                    case hyq06 => (intro W hSw; (try dsimp only at hSw); go_simp; try with_reducible rfl)
                    case' restq06 => try simp only [Act.put, List.setIfInBounds_toArray, List.set_cons_zero, List.set_cons_succ]
                    refine wpAnyH_take (i := 6) (oi := ⟨some 113, _, _, _, _, _⟩) (v := ?vq07) rfl (by kernel_rfl) (by kernel_rfl) (by kernel_rfl) (fun _ _ _ h => h) (Or.inl ⟨by kernel_rfl, ?hyq07⟩) (by assumption) ?restq07
                    case hyq07 => (intro W hSw; (try dsimp only at hSw); go_simp; try with_reducible rfl)
                    case' restq07 => try simp only [Act.put, List.setIfInBounds_toArray, List.set_cons_zero, List.set_cons_succ]
                    refine wpAnyH_take (i := 7) (oi := ⟨some 114, _, _, _, _, _⟩) (v := ?vq08) rfl (by kernel_rfl) (by kernel_rfl) (by kernel_rfl) (fun _ _ _ h => h) (Or.inl ⟨by kernel_rfl, ?hyq08⟩) (by assumption) ?restq08
                    case hyq08 => (intro W hSw; obtain ⟨r0, r1, r2, r3, r4, r5⟩ := HRz.out W hSw; clear hSw; (try dsimp only at hSw); go_simp; try with_reducible rfl)
                    case' restq08 => try simp only [Act.put, List.setIfInBounds_toArray, List.set_cons_zero, List.set_cons_succ]
                    refine wpAnyH_take (i := 8) (oi := ⟨some 115, _, _, _, _, _⟩) (v := ?vq09) rfl (by kernel_rfl) (by kernel_rfl) (by kernel_rfl) (fun _ _ _ h => h) (Or.inl ⟨by kernel_rfl, ?hyq09⟩) (by assumption) ?restq09
                    case hyq09 => (intro W hSw; (try dsimp only at hSw); go_simp; try with_reducible rfl)
                    case' restq09 => try simp only [Act.put, List.setIfInBounds_toArray, List.set_cons_zero, List.set_cons_succ]
                    refine wpAnyH_take (i := 9) (oi := ⟨some 116, _, _, _, _, _⟩) (v := ?vq010) rfl (by kernel_rfl) (by kernel_rfl) (by kernel_rfl) (fun _ _ _ h => h) (Or.inl ⟨by kernel_rfl, ?hyq010⟩) (by assumption) ?restq010
                    case hyq010 => (intro W hSw; (try dsimp only at hSw); go_simp; try with_reducible rfl)
                    case' restq010 => try simp only [Act.put, List.setIfInBounds_toArray, List.set_cons_zero, List.set_cons_succ]
                    refine wpAnyH_take (i := 10) (oi := ⟨some 117, _, _, _, _, _⟩) (v := undef) rfl (by kernel_rfl) (by kernel_rfl) (by kernel_rfl) (fun _ _ _ h => h) (Or.inr ⟨by kernel_rfl, rfl⟩) (by assumption) ?restq011
                    case' restq011 => try simp only [Act.put, List.setIfInBounds_toArray, List.set_cons_zero, List.set_cons_succ]
                    refine wpAnyH_take (i := 11) (oi := ⟨some 118, _, _, _, _, _⟩) (v := undef) rfl (by kernel_rfl) (by kernel_rfl) (by kernel_rfl) (fun _ _ _ h => h) (Or.inr ⟨by kernel_rfl, rfl⟩) (by assumption) ?restq012
                    case' restq012 => try simp only [Act.put, List.setIfInBounds_toArray, List.set_cons_zero, List.set_cons_succ]
                    refine wpAnyH_take (i := 12) (oi := ⟨some 119, _, _, _, _, _⟩) (v := undef) rfl (by kernel_rfl) (by kernel_rfl) (by kernel_rfl) (fun _ _ _ h => h) (Or.inr ⟨by kernel_rfl, rfl⟩) (by assumption) ?restq013
                    case' restq013 => try simp only [Act.put, List.setIfInBounds_toArray, List.set_cons_zero, List.set_cons_succ]
                    refine wpAnyH_take (i := 13) (oi := ⟨some 120, _, _, _, _, _⟩) (v := undef) rfl (by kernel_rfl) (by kernel_rfl) (by kernel_rfl) (fun _ _ _ h => h) (Or.inr ⟨by kernel_rfl, rfl⟩) (by assumption) ?restq014
                    case' restq014 => try simp only [Act.put, List.setIfInBounds_toArray, List.set_cons_zero, List.set_cons_succ]
                    refine wpAnyH_take (i := 14) (oi := ⟨some 121, _, _, _, _, _⟩) (v := undef) rfl (by kernel_rfl) (by kernel_rfl) (by kernel_rfl) (fun _ _ _ h => h) (Or.inr ⟨by kernel_rfl, rfl⟩) (by assumption) ?restq015
                    case' restq015 => try simp only [Act.put, List.setIfInBounds_toArray, List.set_cons_zero, List.set_cons_succ]
                    refine wpAnyH_take (i := 15) (oi := ⟨some 122, _, _, _, _, _⟩) (v := undef) rfl (by kernel_rfl) (by kernel_rfl) (by kernel_rfl) (fun _ _ _ h => h) (Or.inr ⟨by kernel_rfl, rfl⟩) (by assumption) ?restq016
                    case' restq016 => try simp only [Act.put, List.setIfInBounds_toArray, List.set_cons_zero, List.set_cons_succ]
                    refine wpAnyH_take (i := 16) (oi := ⟨some 123, _, _, _, _, _⟩) (v := undef) rfl (by kernel_rfl) (by kernel_rfl) (by kernel_rfl) (fun _ _ _ h => h) (Or.inr ⟨by kernel_rfl, rfl⟩) (by assumption) ?restq017
                    case' restq017 => try simp only [Act.put, List.setIfInBounds_toArray, List.set_cons_zero, List.set_cons_succ]
                    refine wpAnyH_take (i := 17) (oi := ⟨some 124, _, _, _, _, _⟩) (v := ?vq018) rfl (by kernel_rfl) (by kernel_rfl) (by kernel_rfl) (fun _ _ _ h => h) (Or.inl ⟨by kernel_rfl, ?hyq018⟩) (by assumption) ?restq018
                    case hyq018 => (intro W hSw; (try dsimp only at hSw); go_simp; try with_reducible rfl)
                    case' restq018 => try simp only [Act.put, List.setIfInBounds_toArray, List.set_cons_zero, List.set_cons_succ]
                    refine wpAnyH_take (i := 18) (oi := ⟨some 125, _, _, _, _, _⟩) (v := ?vq019) rfl (by kernel_rfl) (by kernel_rfl) (by kernel_rfl) (fun _ _ _ h => h) (Or.inl ⟨by kernel_rfl, ?hyq019⟩) (by assumption) ?restq019
                    case hyq019 => (intro W hSw; (try dsimp only at hSw); go_simp; try with_reducible rfl)
                    case' restq019 => try simp only [Act.put, List.setIfInBounds_toArray, List.set_cons_zero, List.set_cons_succ]
                    refine wpAnyH_take (i := 19) (oi := ⟨some 126, _, _, _, _, _⟩) (v := undef) rfl (by kernel_rfl) (by kernel_rfl) (by kernel_rfl) (fun _ _ _ h => h) (Or.inr ⟨by kernel_rfl, rfl⟩) (by assumption) ?restq020
                    case' restq020 => try simp only [Act.put, List.setIfInBounds_toArray, List.set_cons_zero, List.set_cons_succ]
                    refine wpAnyH_take (i := 20) (oi := ⟨some 127, _, _, _, _, _⟩) (v := undef) rfl (by kernel_rfl) (by kernel_rfl) (by kernel_rfl) (fun _ _ _ h => h) (Or.inr ⟨by kernel_rfl, rfl⟩) (by assumption) ?restq021
                    case' restq021 => try simp only [Act.put, List.setIfInBounds_toArray, List.set_cons_zero, List.set_cons_succ]
                    refine wpAnyH_take (i := 21) (oi := ⟨some 128, _, _, _, _, _⟩) (v := undef) rfl (by kernel_rfl) (by kernel_rfl) (by kernel_rfl) (fun _ _ _ h => h) (Or.inr ⟨by kernel_rfl, rfl⟩) (by assumption) ?restq022
                    case' restq022 => try simp only [Act.put, List.setIfInBounds_toArray, List.set_cons_zero, List.set_cons_succ]
                    refine wpAnyH_take (i := 22) (oi := ⟨some 129, _, _, _, _, _⟩) (v := undef) rfl (by kernel_rfl) (by kernel_rfl) (by kernel_rfl) (fun _ _ _ h => h) (Or.inr ⟨by kernel_rfl, rfl⟩) (by assumption) ?restq023
                    case' restq023 => try simp only [Act.put, List.setIfInBounds_toArray, List.set_cons_zero, List.set_cons_succ]
                    refine wpAnyH_take (i := 23) (oi := ⟨some 130, _, _, _, _, _⟩) (v := undef) rfl (by kernel_rfl) (by kernel_rfl) (by kernel_rfl) (fun _ _ _ h => h) (Or.inr ⟨by kernel_rfl, rfl⟩) (by assumption) ?restq024
                    case' restq024 => try simp only [Act.put, List.setIfInBounds_toArray, List.set_cons_zero, List.set_cons_succ]
                    refine wpAnyH_take (i := 24) (oi := ⟨some 131, _, _, _, _, _⟩) (v := undef) rfl (by kernel_rfl) (by kernel_rfl) (by kernel_rfl) (fun _ _ _ h => h) (Or.inr ⟨by kernel_rfl, rfl⟩) (by assumption) ?restq025
                    case' restq025 => try simp only [Act.put, List.setIfInBounds_toArray, List.set_cons_zero, List.set_cons_succ]
                    refine wpAnyH_take (i := 25) (oi := ⟨some 132, _, _, _, _, _⟩) (v := undef) rfl (by kernel_rfl) (by kernel_rfl) (by kernel_rfl) (fun _ _ _ h => h) (Or.inr ⟨by kernel_rfl, rfl⟩) (by assumption) ?restq026
                    case' restq026 => try simp only [Act.put, List.setIfInBounds_toArray, List.set_cons_zero, List.set_cons_succ]
                    refine wpAnyH_take (i := 26) (oi := ⟨some 133, _, _, _, _, _⟩) (v := undef) rfl (by kernel_rfl) (by kernel_rfl) (by kernel_rfl) (fun _ _ _ h => h) (Or.inr ⟨by kernel_rfl, rfl⟩) (by assumption) ?restq027
                    case' restq027 => try simp only [Act.put, List.setIfInBounds_toArray, List.set_cons_zero, List.set_cons_succ]
                    refine wpAnyH_take (i := 27) (oi := ⟨some 134, _, _, _, _, _⟩) (v := undef) rfl (by kernel_rfl) (by kernel_rfl) (by kernel_rfl) (fun _ _ _ h => h) (Or.inr ⟨by kernel_rfl, rfl⟩) (by assumption) ?restq028
                    case' restq028 => try simp only [Act.put, List.setIfInBounds_toArray, List.set_cons_zero, List.set_cons_succ]
                    refine wpAnyH_take (i := 28) (oi := ⟨some 135, _, _, _, _, _⟩) (v := ?vq029) rfl (by kernel_rfl) (by kernel_rfl) (by kernel_rfl) (fun _ _ _ h => h) (Or.inl ⟨by kernel_rfl, ?hyq029⟩) (by assumption) ?restq029
                    case hyq029 => (intro W hSw; (try dsimp only at hSw); go_simp; try with_reducible rfl)
                    case' restq029 => try simp only [Act.put, List.setIfInBounds_toArray, List.set_cons_zero, List.set_cons_succ]
                    refine wpAnyH_take (i := 29) (oi := ⟨some 136, _, _, _, _, _⟩) (v := ?vq030) rfl (by kernel_rfl) (by kernel_rfl) (by kernel_rfl) (fun _ _ _ h => h) (Or.inl ⟨by kernel_rfl, ?hyq030⟩) (by assumption) ?restq030
                    case hyq030 => (intro W hSw; (try dsimp only at hSw); go_simp; try with_reducible rfl)
                    case' restq030 => try simp only [Act.put, List.setIfInBounds_toArray, List.set_cons_zero, List.set_cons_succ]
                    refine wpAnyH_take (i := 30) (oi := ⟨some 137, _, _, _, _, _⟩) (v := undef) rfl (by kernel_rfl) (by kernel_rfl) (by kernel_rfl) (fun _ _ _ h => h) (Or.inr ⟨by kernel_rfl, rfl⟩) (by assumption) ?restq031
                    case' restq031 => try simp only [Act.put, List.setIfInBounds_toArray, List.set_cons_zero, List.set_cons_succ]
                    refine wpAnyH_take (i := 31) (oi := ⟨some 138, _, _, _, _, _⟩) (v := undef) rfl (by kernel_rfl) (by kernel_rfl) (by kernel_rfl) (fun _ _ _ h => h) (Or.inr ⟨by kernel_rfl, rfl⟩) (by assumption) ?restq032
                    case' restq032 => try simp only [Act.put, List.setIfInBounds_toArray, List.set_cons_zero, List.set_cons_succ]
                    refine wpAnyH_take (i := 32) (oi := ⟨some 139, _, _, _, _, _⟩) (v := undef) rfl (by kernel_rfl) (by kernel_rfl) (by kernel_rfl) (fun _ _ _ h => h) (Or.inr ⟨by kernel_rfl, rfl⟩) (by assumption) ?restq033
                    case' restq033 => try simp only [Act.put, List.setIfInBounds_toArray, List.set_cons_zero, List.set_cons_succ]
                    refine wpAnyH_take (i := 33) (oi := ⟨some 140, _, _, _, _, _⟩) (v := undef) rfl (by kernel_rfl) (by kernel_rfl) (by kernel_rfl) (fun _ _ _ h => h) (Or.inr ⟨by kernel_rfl, rfl⟩) (by assumption) ?restq034
                    case' restq034 => try simp only [Act.put, List.setIfInBounds_toArray, List.set_cons_zero, List.set_cons_succ]
                    refine wpAnyH_take (i := 34) (oi := ⟨some 141, _, _, _, _, _⟩) (v := undef) rfl (by kernel_rfl) (by kernel_rfl) (by kernel_rfl) (fun _ _ _ h => h) (Or.inr ⟨by kernel_rfl, rfl⟩) (by assumption) ?restq035
                    case' restq035 => try simp only [Act.put, List.setIfInBounds_toArray, List.set_cons_zero, List.set_cons_succ]
                    refine wpAnyH_take (i := 35) (oi := ⟨some 142, _, _, _, _, _⟩) (v := undef) rfl (by kernel_rfl) (by kernel_rfl) (by kernel_rfl) (fun _ _ _ h => h) (Or.inr ⟨by kernel_rfl, rfl⟩) (by assumption) ?restq036
                    case' restq036 => try simp only [Act.put, List.setIfInBounds_toArray, List.set_cons_zero, List.set_cons_succ]
                    refine wpAnyH_take (i := 36) (oi := ⟨some 143, _, _, _, _, _⟩) (v := undef) rfl (by kernel_rfl) (by kernel_rfl) (by kernel_rfl) (fun _ _ _ h => h) (Or.inr ⟨by kernel_rfl, rfl⟩) (by assumption) ?restq037
                    case' restq037 => try simp only [Act.put, List.setIfInBounds_toArray, List.set_cons_zero, List.set_cons_succ]
                    refine wpAnyH_take (i := 37) (oi := ⟨some 144, _, _, _, _, _⟩) (v := ?vq038) rfl (by kernel_rfl) (by kernel_rfl) (by kernel_rfl) (fun _ _ _ h => h) (Or.inl ⟨by kernel_rfl, ?hyq038⟩) (by assumption) ?restq038
                    case hyq038 => (intro W hSw; (try dsimp only at hSw); go_simp; try with_reducible rfl)
                    case' restq038 => try simp only [Act.put, List.setIfInBounds_toArray, List.set_cons_zero, List.set_cons_succ]
                    refine wpAnyH_take (i := 38) (oi := ⟨some 15, _, _, _, _, _⟩) (v := ?vq039) rfl (by kernel_rfl) (by kernel_rfl) (by kernel_rfl) (fun _ _ _ h => h) (Or.inl ⟨by kernel_rfl, ?hyq039⟩) (by assumption) ?restq039
                    case hyq039 => (intro W hSw; (try dsimp only at hSw); go_simp; try with_reducible rfl)
                    case' restq039 => try simp only [Act.put, List.setIfInBounds_toArray, List.set_cons_zero, List.set_cons_succ]
                    refine wpAnyH_done (by kernel_rfl) ?_ _
                    go_wp2_with fail
                    go_meet
                    exact ⟨by rw [HN0.out], hS0⟩
                · have f0 : decide (px = x) = false := decide_eq_false e0
                  have h0 : (px == x) = false := by simpa using e0
                  by_cases e1 : px = fx
                  · have HN0 := Lib.hid (show decide (px = x ∨ px = fx ∨ py = y ∨ py = fy) = true from decide_eq_true (by omega))
                    subst e1
                    as_aux_lemma =>
                      have hS0 : (fun W' : World => Below wz.heap.size wz W') wq.drew := HKq.out.drew
                      refine wp_region_held_drew (S := (fun W' : World => Below wz.heap.size wz W')) (by kernel_rfl) hS0 (fun hHeld => ?_)
                      clear hHeld
                      generalize wq.drew = wy at *
                      refine wpAnyH_take (i := 0) (oi := ⟨some 107, _, _, _, _, _⟩) (v := ?vq11) rfl (by kernel_rfl) (by kernel_rfl) (by kernel_rfl) (fun _ _ _ h => h) (Or.inl ⟨by kernel_rfl, ?hyq11⟩) (by assumption) ?restq11
                      case hyq11 => (intro W hSw; (try dsimp only at hSw); go_simp; try with_reducible rfl)
                      case' restq11 => try simp only [Act.put, List.setIfInBounds_toArray, List.set_cons_zero, List.set_cons_succ]
                      refine wpAnyH_take (i := 1) (oi := ⟨some 108, _, _, _, _, _⟩) (v := ?vq12) rfl (by kernel_rfl) (by kernel_rfl) (by kernel_rfl) (fun _ _ _ h => h) (Or.inl ⟨by kernel_rfl, ?hyq12⟩) (by assumption) ?restq12
                      case hyq12 => (intro W hSw; (try dsimp only at hSw); go_simp; try with_reducible rfl)
                      case' restq12 => try simp only [Act.put, List.setIfInBounds_toArray, List.set_cons_zero, List.set_cons_succ]
                      refine wpAnyH_take (i := 2) (oi := ⟨some 109, _, _, _, _, _⟩) (v := ?vq13) rfl (by kernel_rfl) (by kernel_rfl) (by kernel_rfl) (fun _ _ _ h => h) (Or.inl ⟨by kernel_rfl, ?hyq13⟩) (by assumption) ?restq13
                      case hyq13 => (intro W hSw; (try dsimp only at hSw); go_simp; try with_reducible rfl)
                      case' restq13 => try simp only [Act.put, List.setIfInBounds_toArray, List.set_cons_zero, List.set_cons_succ]
                      refine wpAnyH_take (i := 3) (oi := ⟨some 110, _, _, _, _, _⟩) (v := ?vq14) rfl (by kernel_rfl) (by kernel_rfl) (by kernel_rfl) (fun _ _ _ h => h) (Or.inl ⟨by kernel_rfl, ?hyq14⟩) (by assumption) ?restq14
                      case hyq14 => (intro W hSw; (try dsimp only at hSw); go_simp; try with_reducible rfl)
                      case' restq14 => try simp only [Act.put, List.setIfInBounds_toArray, List.set_cons_zero, List.set_cons_succ]
                      refine wpAnyH_take (i := 4) (oi := ⟨some 111, _, _, _, _, _⟩) (v := ?vq15) rfl (by kernel_rfl) (by kernel_rfl) (by kernel_rfl) (fun _ _ _ h => h) (Or.inl ⟨by kernel_rfl, ?hyq15⟩) (by assumption) ?restq15
                      case hyq15 => (intro W hSw; obtain ⟨s1, s2⟩ := HPj.out W hSw; clear hSw; (try dsimp only at hSw); go_simp; try with_reducible rfl)
                      case' restq15 => try simp only [Act.put, List.setIfInBounds_toArray, List.set_cons_zero, List.set_cons_succ]
                      refine wpAnyH_take (i := 5) (oi := ⟨some 112, _, _, _, _, _⟩) (v := ?vq16) rfl (by kernel_rfl) (by kernel_rfl) (by kernel_rfl) (fun _ _ _ h => h) (Or.inl ⟨by kernel_rfl, ?hyq16⟩) (by assumption) ?restq16
                      case hyq16 => (intro W hSw; (try dsimp only at hSw); go_simp; try with_reducible rfl)
                      case' restq16 => try simp only [Act.put, List.setIfInBounds_toArray, List.set_cons_zero, List.set_cons_succ]
                      refine wpAnyH_take (i := 6) (oi := ⟨some 113, _, _, _, _, _⟩) (v := ?vq17) rfl (by kernel_rfl) (by kernel_rfl) (by kernel_rfl) (fun _ _ _ h => h) (Or.inl ⟨by kernel_rfl, ?hyq17⟩) (by assumption) ?restq17
                      case hyq17 => (intro W hSw; (try dsimp only at hSw); go_simp; try with_reducible rfl)
                      case' restq17 => try simp only [Act.put, List.setIfInBounds_toArray, List.set_cons_zero, List.set_cons_succ]
                      refine wpAnyH_take (i := 7) (oi := ⟨some 114, _, _, _, _, _⟩) (v := ?vq18) rfl (by kernel_rfl) (by kernel_rfl) (by kernel_rfl) (fun _ _ _ h => h) (Or.inl ⟨by kernel_rfl, ?hyq18⟩) (by assumption) ?restq18
                      case hyq18 => (intro W hSw; obtain ⟨r0, r1, r2, r3, r4, r5⟩ := HRz.out W hSw; clear hSw; (try dsimp only at hSw); go_simp; try with_reducible rfl)
                      case' restq18 => try simp only [Act.put, List.setIfInBounds_toArray, List.set_cons_zero, List.set_cons_succ]
                      refine wpAnyH_take (i := 8) (oi := ⟨some 115, _, _, _, _, _⟩) (v := ?vq19) rfl (by kernel_rfl) (by kernel_rfl) (by kernel_rfl) (fun _ _ _ h => h) (Or.inl ⟨by kernel_rfl, ?hyq19⟩) (by assumption) ?restq19
                      case hyq19 => (intro W hSw; (try dsimp only at hSw); go_simp; try with_reducible rfl)
                      case' restq19 => try simp only [Act.put, List.setIfInBounds_toArray, List.set_cons_zero, List.set_cons_succ]
                      refine wpAnyH_take (i := 9) (oi := ⟨some 116, _, _, _, _, _⟩) (v := ?vq110) rfl (by kernel_rfl) (by kernel_rfl) (by kernel_rfl) (fun _ _ _ h => h) (Or.inl ⟨by kernel_rfl, ?hyq110⟩) (by assumption) ?restq110
                      case hyq110 => (intro W hSw; (try dsimp only at hSw); go_simp; try with_reducible rfl)
                      case' restq110 => try simp only [Act.put, List.setIfInBounds_toArray, List.set_cons_zero, List.set_cons_succ]
                      refine wpAnyH_take (i := 10) (oi := ⟨some 117, _, _, _, _, _⟩) (v := ?vq111) rfl (by kernel_rfl) (by kernel_rfl) (by kernel_rfl) (fun _ _ _ h => h) (Or.inl ⟨by kernel_rfl, ?hyq111⟩) (by assumption) ?restq111
                      case hyq111 => (intro W hSw; (try dsimp only at hSw); go_simp; try with_reducible rfl)
                      case' restq111 => try simp only [Act.put, List.setIfInBounds_toArray, List.set_cons_zero, List.set_cons_succ]
                      refine wpAnyH_take (i := 11) (oi := ⟨some 118, _, _, _, _, _⟩) (v := ?vq112) rfl (by kernel_rfl) (by kernel_rfl) (by kernel_rfl) (fun _ _ _ h => h) (Or.inl ⟨by kernel_rfl, ?hyq112⟩) (by assumption) ?restq112
                      case hyq112 => (intro W hSw; (try dsimp only at hSw); go_simp; try with_reducible rfl)
                      case' restq112 => try simp only [Act.put, List.setIfInBounds_toArray, List.set_cons_zero, List.set_cons_succ]
                      refine wpAnyH_take (i := 12) (oi := ⟨some 119, _, _, _, _, _⟩) (v := ?vq113) rfl (by kernel_rfl) (by kernel_rfl) (by kernel_rfl) (fun _ _ _ h => h) (Or.inl ⟨by kernel_rfl, ?hyq113⟩) (by assumption) ?restq113
                      case hyq113 => (intro W hSw; (try dsimp only at hSw); go_simp; try with_reducible rfl)
                      case' restq113 => try simp only [Act.put, List.setIfInBounds_toArray, List.set_cons_zero, List.set_cons_succ]
                      refine wpAnyH_take (i := 13) (oi := ⟨some 120, _, _, _, _, _⟩) (v := ?vq114) rfl (by kernel_rfl) (by kernel_rfl) (by kernel_rfl) (fun _ _ _ h => h) (Or.inl ⟨by kernel_rfl, ?hyq114⟩) (by assumption) ?restq114
                      case hyq114 => (intro W hSw; (try dsimp only at hSw); go_simp; try with_reducible rfl)
                      case' restq114 => try simp only [Act.put, List.setIfInBounds_toArray, List.set_cons_zero, List.set_cons_succ]
                      refine wpAnyH_take (i := 14) (oi := ⟨some 121, _, _, _, _, _⟩) (v := ?vq115) rfl (by kernel_rfl) (by kernel_rfl) (by kernel_rfl) (fun _ _ _ h => h) (Or.inl ⟨by kernel_rfl, ?hyq115⟩) (by assumption) ?restq115
                      case hyq115 => (intro W hSw; obtain ⟨s1, s2⟩ := HPj.out W hSw; clear hSw; (try dsimp only at hSw); go_simp; try with_reducible rfl)
                      case' restq115 => try simp only [Act.put, List.setIfInBounds_toArray, List.set_cons_zero, List.set_cons_succ]
                      refine wpAnyH_take (i := 15) (oi := ⟨some 122, _, _, _, _, _⟩) (v := ?vq116) rfl (by kernel_rfl) (by kernel_rfl) (by kernel_rfl) (fun _ _ _ h => h) (Or.inl ⟨by kernel_rfl, ?hyq116⟩) (by assumption) ?restq116
                      case hyq116 => (intro W hSw; (try dsimp only at hSw); go_simp; try with_reducible rfl)
                      case' restq116 => try simp only [Act.put, List.setIfInBounds_toArray, List.set_cons_zero, List.set_cons_succ]
                      refine wpAnyH_take (i := 16) (oi := ⟨some 123, _, _, _, _, _⟩) (v := ?vq117) rfl (by kernel_rfl) (by kernel_rfl) (by kernel_rfl) (fun _ _ _ h => h) (Or.inl ⟨by kernel_rfl, ?hyq117⟩) (by assumption) ?restq117
                      case hyq117 => (intro W hSw; (try dsimp only at hSw); go_simp; try with_reducible rfl)
                      case' restq117 => try simp only [Act.put, List.setIfInBounds_toArray, List.set_cons_zero, List.set_cons_succ]
                      refine wpAnyH_take (i := 17) (oi := ⟨some 124, _, _, _, _, _⟩) (v := ?vq118) rfl (by kernel_rfl) (by kernel_rfl) (by kernel_rfl) (fun _ _ _ h => h) (Or.inl ⟨by kernel_rfl, ?hyq118⟩) (by assumption) ?restq118
                      case hyq118 => (intro W hSw; (try dsimp only at hSw); go_simp; try with_reducible rfl)
                      case' restq118 => try simp only [Act.put, List.setIfInBounds_toArray, List.set_cons_zero, List.set_cons_succ]
                      refine wpAnyH_take (i := 18) (oi := ⟨some 125, _, _, _, _, _⟩) (v := ?vq119) rfl (by kernel_rfl) (by kernel_rfl) (by kernel_rfl) (fun _ _ _ h => h) (Or.inl ⟨by kernel_rfl, ?hyq119⟩) (by assumption) ?restq119
                      case hyq119 => (intro W hSw; (try dsimp only at hSw); go_simp; try with_reducible rfl)
                      case' restq119 => try simp only [Act.put, List.setIfInBounds_toArray, List.set_cons_zero, List.set_cons_succ]
                      refine wpAnyH_take (i := 19) (oi := ⟨some 126, _, _, _, _, _⟩) (v := undef) rfl (by kernel_rfl) (by kernel_rfl) (by kernel_rfl) (fun _ _ _ h => h) (Or.inr ⟨by kernel_rfl, rfl⟩) (by assumption) ?restq120
                      case' restq120 => try simp only [Act.put, List.setIfInBounds_toArray, List.set_cons_zero, List.set_cons_succ]
                      refine wpAnyH_take (i := 20) (oi := ⟨some 127, _, _, _, _, _⟩) (v := undef) rfl (by kernel_rfl) (by kernel_rfl) (by kernel_rfl) (fun _ _ _ h => h) (Or.inr ⟨by kernel_rfl, rfl⟩) (by assumption) ?restq121
                      case' restq121 => try simp only [Act.put, List.setIfInBounds_toArray, List.set_cons_zero, List.set_cons_succ]
                      refine wpAnyH_take (i := 21) (oi := ⟨some 128, _, _, _, _, _⟩) (v := undef) rfl (by kernel_rfl) (by kernel_rfl) (by kernel_rfl) (fun _ _ _ h => h) (Or.inr ⟨by kernel_rfl, rfl⟩) (by assumption) ?restq122
                      case' restq122 => try simp only [Act.put, List.setIfInBounds_toArray, List.set_cons_zero, List.set_cons_succ]
                      refine wpAnyH_take (i := 22) (oi := ⟨some 129, _, _, _, _, _⟩) (v := undef) rfl (by kernel_rfl) (by kernel_rfl) (by kernel_rfl) (fun _ _ _ h => h) (Or.inr ⟨by kernel_rfl, rfl⟩) (by assumption) ?restq123
                      case' restq123 => try simp only [Act.put, List.setIfInBounds_toArray, List.set_cons_zero, List.set_cons_succ]
                      refine wpAnyH_take (i := 23) (oi := ⟨some 130, _, _, _, _, _⟩) (v := undef) rfl (by kernel_rfl) (by kernel_rfl) (by kernel_rfl) (fun _ _ _ h => h) (Or.inr ⟨by kernel_rfl, rfl⟩) (by assumption) ?restq124
                      case' restq124 => try simp only [Act.put, List.setIfInBounds_toArray, List.set_cons_zero, List.set_cons_succ]
                      refine wpAnyH_take (i := 24) (oi := ⟨some 131, _, _, _, _, _⟩) (v := undef) rfl (by kernel_rfl) (by kernel_rfl) (by kernel_rfl) (fun _ _ _ h => h) (Or.inr ⟨by kernel_rfl, rfl⟩) (by assumption) ?restq125
                      case' restq125 => try simp only [Act.put, List.setIfInBounds_toArray, List.set_cons_zero, List.set_cons_succ]
                      refine wpAnyH_take (i := 25) (oi := ⟨some 132, _, _, _, _, _⟩) (v := undef) rfl (by kernel_rfl) (by kernel_rfl) (by kernel_rfl) (fun _ _ _ h => h) (Or.inr ⟨by kernel_rfl, rfl⟩) (by assumption) ?restq126
                      case' restq126 => try simp only [Act.put, List.setIfInBounds_toArray, List.set_cons_zero, List.set_cons_succ]
                      refine wpAnyH_take (i := 26) (oi := ⟨some 133, _, _, _, _, _⟩) (v := undef) rfl (by kernel_rfl) (by kernel_rfl) (by kernel_rfl) (fun _ _ _ h => h) (Or.inr ⟨by kernel_rfl, rfl⟩) (by assumption) ?restq127
                      case' restq127 => try simp only [Act.put, List.setIfInBounds_toArray, List.set_cons_zero, List.set_cons_succ]
                      refine wpAnyH_take (i := 27) (oi := ⟨some 134, _, _, _, _, _⟩) (v := undef) rfl (by kernel_rfl) (by kernel_rfl) (by kernel_rfl) (fun _ _ _ h => h) (Or.inr ⟨by kernel_rfl, rfl⟩) (by assumption) ?restq128
                      case' restq128 => try simp only [Act.put, List.setIfInBounds_toArray, List.set_cons_zero, List.set_cons_succ]
                      refine wpAnyH_take (i := 28) (oi := ⟨some 135, _, _, _, _, _⟩) (v := ?vq129) rfl (by kernel_rfl) (by kernel_rfl) (by kernel_rfl) (fun _ _ _ h => h) (Or.inl ⟨by kernel_rfl, ?hyq129⟩) (by assumption) ?restq129
                      case hyq129 => (intro W hSw; (try dsimp only at hSw); go_simp; try with_reducible rfl)
                      case' restq129 => try simp only [Act.put, List.setIfInBounds_toArray, List.set_cons_zero, List.set_cons_succ]
                      refine wpAnyH_take (i := 29) (oi := ⟨some 136, _, _, _, _, _⟩) (v := ?vq130) rfl (by kernel_rfl) (by kernel_rfl) (by kernel_rfl) (fun _ _ _ h => h) (Or.inl ⟨by kernel_rfl, ?hyq130⟩) (by assumption) ?restq130
                      case hyq130 => (intro W hSw; (try dsimp only at hSw); go_simp; try with_reducible rfl)
                      case' restq130 => try simp only [Act.put, List.setIfInBounds_toArray, List.set_cons_zero, List.set_cons_succ]
                      refine wpAnyH_take (i := 30) (oi := ⟨some 137, _, _, _, _, _⟩) (v := undef) rfl (by kernel_rfl) (by kernel_rfl) (by kernel_rfl) (fun _ _ _ h => h) (Or.inr ⟨by kernel_rfl, rfl⟩) (by assumption) ?restq131
                      case' restq131 => try simp only [Act.put, List.setIfInBounds_toArray, List.set_cons_zero, List.set_cons_succ]
                      refine wpAnyH_take (i := 31) (oi := ⟨some 138, _, _, _, _, _⟩) (v := undef) rfl (by kernel_rfl) (by kernel_rfl) (by kernel_rfl) (fun _ _ _ h => h) (Or.inr ⟨by kernel_rfl, rfl⟩) (by assumption) ?restq132
                      case' restq132 => try simp only [Act.put, List.setIfInBounds_toArray, List.set_cons_zero, List.set_cons_succ]
                      refine wpAnyH_take (i := 32) (oi := ⟨some 139, _, _, _, _, _⟩) (v := undef) rfl (by kernel_rfl) (by kernel_rfl) (by kernel_rfl) (fun _ _ _ h => h) (Or.inr ⟨by kernel_rfl, rfl⟩) (by assumption) ?restq133
                      case' restq133 => try simp only [Act.put, List.setIfInBounds_toArray, List.set_cons_zero, List.set_cons_succ]
                      refine wpAnyH_take (i := 33) (oi := ⟨some 140, _, _, _, _, _⟩) (v := undef) rfl (by kernel_rfl) (by kernel_rfl) (by kernel_rfl) (fun _ _ _ h => h) (Or.inr ⟨by kernel_rfl, rfl⟩) (by assumption) ?restq134
                      case' restq134 => try simp only [Act.put, List.setIfInBounds_toArray, List.set_cons_zero, List.set_cons_succ]
                      refine wpAnyH_take (i := 34) (oi := ⟨some 141, _, _, _, _, _⟩) (v := undef) rfl (by kernel_rfl) (by kernel_rfl) (by kernel_rfl) (fun _ _ _ h => h) (Or.inr ⟨by kernel_rfl, rfl⟩) (by assumption) ?restq135
                      case' restq135 => try simp only [Act.put, List.setIfInBounds_toArray, List.set_cons_zero, List.set_cons_succ]
                      refine wpAnyH_take (i := 35) (oi := ⟨some 142, _, _, _, _, _⟩) (v := undef) rfl (by kernel_rfl) (by kernel_rfl) (by kernel_rfl) (fun _ _ _ h => h) (Or.inr ⟨by kernel_rfl, rfl⟩) (by assumption) ?restq136
                      case' restq136 => try simp only [Act.put, List.setIfInBounds_toArray, List.set_cons_zero, List.set_cons_succ]
                      refine wpAnyH_take (i := 36) (oi := ⟨some 143, _, _, _, _, _⟩) (v := undef) rfl (by kernel_rfl) (by kernel_rfl) (by kernel_rfl) (fun _ _ _ h => h) (Or.inr ⟨by kernel_rfl, rfl⟩) (by assumption) ?restq137
                      case' restq137 => try simp only [Act.put, List.setIfInBounds_toArray, List.set_cons_zero, List.set_cons_succ]
                      refine wpAnyH_take (i := 37) (oi := ⟨some 144, _, _, _, _, _⟩) (v := ?vq138) rfl (by kernel_rfl) (by kernel_rfl) (by kernel_rfl) (fun _ _ _ h => h) (Or.inl ⟨by kernel_rfl, ?hyq138⟩) (by assumption) ?restq138
                      case hyq138 => (intro W hSw; (try dsimp only at hSw); go_simp; try with_reducible rfl)
                      case' restq138 => try simp only [Act.put, List.setIfInBounds_toArray, List.set_cons_zero, List.set_cons_succ]
                      refine wpAnyH_take (i := 38) (oi := ⟨some 15, _, _, _, _, _⟩) (v := ?vq139) rfl (by kernel_rfl) (by kernel_rfl) (by kernel_rfl) (fun _ _ _ h => h) (Or.inl ⟨by kernel_rfl, ?hyq139⟩) (by assumption) ?restq139
                      case hyq139 => (intro W hSw; (try dsimp only at hSw); go_simp; try with_reducible rfl)
                      case' restq139 => try simp only [Act.put, List.setIfInBounds_toArray, List.set_cons_zero, List.set_cons_succ]
                      refine wpAnyH_done (by kernel_rfl) ?_ _
                      go_wp2_with fail
                      go_meet
                      exact ⟨by rw [HN0.out], hS0⟩
                  · have f1 : decide (px = fx) = false := decide_eq_false e1
                    have h1 : (px == fx) = false := by simpa using e1
                    by_cases e2 : py = y
                    · have HN0 := Lib.hid (show decide (px = x ∨ px = fx ∨ py = y ∨ py = fy) = true from decide_eq_true (by omega))
                      subst e2
                      as_aux_lemma =>
                        have hS0 : (fun W' : World => Below wz.heap.size wz W') wq.drew := HKq.out.drew
                        refine wp_region_held_drew (S := (fun W' : World => Below wz.heap.size wz W')) (by kernel_rfl) hS0 (fun hHeld => ?_)
                        clear hHeld
                        generalize wq.drew = wy at *
                        refine wpAnyH_take (i := 0) (oi := ⟨some 107, _, _, _, _, _⟩) (v := ?vq21) rfl (by kernel_rfl) (by kernel_rfl) (by kernel_rfl) (fun _ _ _ h => h) (Or.inl ⟨by kernel_rfl, ?hyq21⟩) (by assumption) ?restq21
                        case hyq21 => (intro W hSw; (try dsimp only at hSw); go_simp; try with_reducible rfl)
                        case' restq21 => try simp only [Act.put, List.setIfInBounds_toArray, List.set_cons_zero, List.set_cons_succ]
                        refine wpAnyH_take (i := 1) (oi := ⟨some 108, _, _, _, _, _⟩) (v := ?vq22) rfl (by kernel_rfl) (by kernel_rfl) (by kernel_rfl) (fun _ _ _ h => h) (Or.inl ⟨by kernel_rfl, ?hyq22⟩) (by assumption) ?restq22
                        case hyq22 => (intro W hSw; (try dsimp only at hSw); go_simp; try with_reducible rfl)
                        case' restq22 => try simp only [Act.put, List.setIfInBounds_toArray, List.set_cons_zero, List.set_cons_succ]
                        refine wpAnyH_take (i := 2) (oi := ⟨some 109, _, _, _, _, _⟩) (v := ?vq23) rfl (by kernel_rfl) (by kernel_rfl) (by kernel_rfl) (fun _ _ _ h => h) (Or.inl ⟨by kernel_rfl, ?hyq23⟩) (by assumption) ?restq23
                        case hyq23 => (intro W hSw; (try dsimp only at hSw); go_simp; try with_reducible rfl)
                        case' restq23 => try simp only [Act.put, List.setIfInBounds_toArray, List.set_cons_zero, List.set_cons_succ]
                        refine wpAnyH_take (i := 3) (oi := ⟨some 110, _, _, _, _, _⟩) (v := ?vq24) rfl (by kernel_rfl) (by kernel_rfl) (by kernel_rfl) (fun _ _ _ h => h) (Or.inl ⟨by kernel_rfl, ?hyq24⟩) (by assumption) ?restq24
                        case hyq24 => (intro W hSw; (try dsimp only at hSw); go_simp; try with_reducible rfl)
                        case' restq24 => try simp only [Act.put, List.setIfInBounds_toArray, List.set_cons_zero, List.set_cons_succ]
                        refine wpAnyH_take (i := 4) (oi := ⟨some 111, _, _, _, _, _⟩) (v := ?vq25) rfl (by kernel_rfl) (by kernel_rfl) (by kernel_rfl) (fun _ _ _ h => h) (Or.inl ⟨by kernel_rfl, ?hyq25⟩) (by assumption) ?restq25
                        case hyq25 => (intro W hSw; obtain ⟨s1, s2⟩ := HPj.out W hSw; clear hSw; (try dsimp only at hSw); go_simp; try with_reducible rfl)
                        case' restq25 => try simp only [Act.put, List.setIfInBounds_toArray, List.set_cons_zero, List.set_cons_succ]
                        refine wpAnyH_take (i := 5) (oi := ⟨some 112, _, _, _, _, _⟩) (v := ?vq26) rfl (by kernel_rfl) (by kernel_rfl) (by kernel_rfl) (fun _ _ _ h => h) (Or.inl ⟨by kernel_rfl, ?hyq26⟩) (by assumption) ?restq26
                        case hyq26 => (intro W hSw; (try dsimp only at hSw); go_simp; try with_reducible rfl)
                        case' restq26 => try simp only [Act.put, List.setIfInBounds_toArray, List.set_cons_zero, List.set_cons_succ]
                        refine wpAnyH_take (i := 6) (oi := ⟨some 113, _, _, _, _, _⟩) (v := ?vq27) rfl (by kernel_rfl) (by kernel_rfl) (by kernel_rfl) (fun _ _ _ h => h) (Or.inl ⟨by kernel_rfl, ?hyq27⟩) (by assumption) ?restq27
                        case hyq27 => (intro W hSw; (try dsimp only at hSw); go_simp; try with_reducible rfl)
                        case' restq27 => try simp only [Act.put, List.setIfInBounds_toArray, List.set_cons_zero, List.set_cons_succ]
                        refine wpAnyH_take (i := 7) (oi := ⟨some 114, _, _, _, _, _⟩) (v := ?vq28) rfl (by kernel_rfl) (by kernel_rfl) (by kernel_rfl) (fun _ _ _ h => h) (Or.inl ⟨by kernel_rfl, ?hyq28⟩) (by assumption) ?restq28
                        case hyq28 => (intro W hSw; obtain ⟨r0, r1, r2, r3, r4, r5⟩ := HRz.out W hSw; clear hSw; (try dsimp only at hSw); go_simp; try with_reducible rfl)
                        case' restq28 => try simp only [Act.put, List.setIfInBounds_toArray, List.set_cons_zero, List.set_cons_succ]
                        refine wpAnyH_take (i := 8) (oi := ⟨some 115, _, _, _, _, _⟩) (v := ?vq29) rfl (by kernel_rfl) (by kernel_rfl) (by kernel_rfl) (fun _ _ _ h => h) (Or.inl ⟨by kernel_rfl, ?hyq29⟩) (by assumption) ?restq29
                        case hyq29 => (intro W hSw; (try dsimp only at hSw); go_simp; try with_reducible rfl)
                        case' restq29 => try simp only [Act.put, List.setIfInBounds_toArray, List.set_cons_zero, List.set_cons_succ]
                        refine wpAnyH_take (i := 9) (oi := ⟨some 116, _, _, _, _, _⟩) (v := ?vq210) rfl (by kernel_rfl) (by kernel_rfl) (by kernel_rfl) (fun _ _ _ h => h) (Or.inl ⟨by kernel_rfl, ?hyq210⟩) (by assumption) ?restq210
                        case hyq210 => (intro W hSw; (try dsimp only at hSw); go_simp; try with_reducible rfl)
                        case' restq210 => try simp only [Act.put, List.setIfInBounds_toArray, List.set_cons_zero, List.set_cons_succ]
                        refine wpAnyH_take (i := 10) (oi := ⟨some 117, _, _, _, _, _⟩) (v := ?vq211) rfl (by kernel_rfl) (by kernel_rfl) (by kernel_rfl) (fun _ _ _ h => h) (Or.inl ⟨by kernel_rfl, ?hyq211⟩) (by assumption) ?restq211
                        case hyq211 => (intro W hSw; (try dsimp only at hSw); go_simp; try with_reducible rfl)
                        case' restq211 => try simp only [Act.put, List.setIfInBounds_toArray, List.set_cons_zero, List.set_cons_succ]
                        refine wpAnyH_take (i := 11) (oi := ⟨some 118, _, _, _, _, _⟩) (v := ?vq212) rfl (by kernel_rfl) (by kernel_rfl) (by kernel_rfl) (fun _ _ _ h => h) (Or.inl ⟨by kernel_rfl, ?hyq212⟩) (by assumption) ?restq212
                        case hyq212 => (intro W hSw; (try dsimp only at hSw); go_simp; try with_reducible rfl)
                        case' restq212 => try simp only [Act.put, List.setIfInBounds_toArray, List.set_cons_zero, List.set_cons_succ]
                        refine wpAnyH_take (i := 12) (oi := ⟨some 119, _, _, _, _, _⟩) (v := ?vq213) rfl (by kernel_rfl) (by kernel_rfl) (by kernel_rfl) (fun _ _ _ h => h) (Or.inl ⟨by kernel_rfl, ?hyq213⟩) (by assumption) ?restq213
                        case hyq213 => (intro W hSw; (try dsimp only at hSw); go_simp; try with_reducible rfl)
                        case' restq213 => try simp only [Act.put, List.setIfInBounds_toArray, List.set_cons_zero, List.set_cons_succ]
                        refine wpAnyH_take (i := 13) (oi := ⟨some 120, _, _, _, _, _⟩) (v := ?vq214) rfl (by kernel_rfl) (by kernel_rfl) (by kernel_rfl) (fun _ _ _ h => h) (Or.inl ⟨by kernel_rfl, ?hyq214⟩) (by assumption) ?restq214
                        case hyq214 => (intro W hSw; (try dsimp only at hSw); go_simp; try with_reducible rfl)
                        case' restq214 => try simp only [Act.put, List.setIfInBounds_toArray, List.set_cons_zero, List.set_cons_succ]
                        refine wpAnyH_take (i := 14) (oi := ⟨some 121, _, _, _, _, _⟩) (v := ?vq215) rfl (by kernel_rfl) (by kernel_rfl) (by kernel_rfl) (fun _ _ _ h => h) (Or.inl ⟨by kernel_rfl, ?hyq215⟩) (by assumption) ?restq215
                        case hyq215 => (intro W hSw; obtain ⟨s1, s2⟩ := HPj.out W hSw; clear hSw; (try dsimp only at hSw); go_simp; try with_reducible rfl)
                        case' restq215 => try simp only [Act.put, List.setIfInBounds_toArray, List.set_cons_zero, List.set_cons_succ]
                        refine wpAnyH_take (i := 15) (oi := ⟨some 122, _, _, _, _, _⟩) (v := ?vq216) rfl (by kernel_rfl) (by kernel_rfl) (by kernel_rfl) (fun _ _ _ h => h) (Or.inl ⟨by kernel_rfl, ?hyq216⟩) (by assumption) ?restq216
                        case hyq216 => (intro W hSw; (try dsimp only at hSw); go_simp; try with_reducible rfl)
                        case' restq216 => try simp only [Act.put, List.setIfInBounds_toArray, List.set_cons_zero, List.set_cons_succ]
                        refine wpAnyH_take (i := 16) (oi := ⟨some 123, _, _, _, _, _⟩) (v := ?vq217) rfl (by kernel_rfl) (by kernel_rfl) (by kernel_rfl) (fun _ _ _ h => h) (Or.inl ⟨by kernel_rfl, ?hyq217⟩) (by assumption) ?restq217
                        case hyq217 => (intro W hSw; (try dsimp only at hSw); go_simp; try with_reducible rfl)
                        case' restq217 => try simp only [Act.put, List.setIfInBounds_toArray, List.set_cons_zero, List.set_cons_succ]
                        refine wpAnyH_take (i := 17) (oi := ⟨some 124, _, _, _, _, _⟩) (v := ?vq218) rfl (by kernel_rfl) (by kernel_rfl) (by kernel_rfl) (fun _ _ _ h => h) (Or.inl ⟨by kernel_rfl, ?hyq218⟩) (by assumption) ?restq218
                        case hyq218 => (intro W hSw; (try dsimp only at hSw); go_simp; try with_reducible rfl)
                        case' restq218 => try simp only [Act.put, List.setIfInBounds_toArray, List.set_cons_zero, List.set_cons_succ]
                        refine wpAnyH_take (i := 18) (oi := ⟨some 125, _, _, _, _, _⟩) (v := ?vq219) rfl (by kernel_rfl) (by kernel_rfl) (by kernel_rfl) (fun _ _ _ h => h) (Or.inl ⟨by kernel_rfl, ?hyq219⟩) (by assumption) ?restq219
                        case hyq219 => (intro W hSw; (try dsimp only at hSw); go_simp; try with_reducible rfl)
                        case' restq219 => try simp only [Act.put, List.setIfInBounds_toArray, List.set_cons_zero, List.set_cons_succ]
                        refine wpAnyH_take (i := 19) (oi := ⟨some 126, _, _, _, _, _⟩) (v := ?vq220) rfl (by kernel_rfl) (by kernel_rfl) (by kernel_rfl) (fun _ _ _ h => h) (Or.inl ⟨by kernel_rfl, ?hyq220⟩) (by assumption) ?restq220
                        case hyq220 => (intro W hSw; (try dsimp only at hSw); go_simp; try with_reducible rfl)
                        case' restq220 => try simp only [Act.put, List.setIfInBounds_toArray, List.set_cons_zero, List.set_cons_succ]
                        refine wpAnyH_take (i := 20) (oi := ⟨some 127, _, _, _, _, _⟩) (v := ?vq221) rfl (by kernel_rfl) (by kernel_rfl) (by kernel_rfl) (fun _ _ _ h => h) (Or.inl ⟨by kernel_rfl, ?hyq221⟩) (by assumption) ?restq221
                        case hyq221 => (intro W hSw; (try dsimp only at hSw); go_simp; try with_reducible rfl)
                        case' restq221 => try simp only [Act.put, List.setIfInBounds_toArray, List.set_cons_zero, List.set_cons_succ]
                        refine wpAnyH_take (i := 21) (oi := ⟨some 128, _, _, _, _, _⟩) (v := ?vq222) rfl (by kernel_rfl) (by kernel_rfl) (by kernel_rfl) (fun _ _ _ h => h) (Or.inl ⟨by kernel_rfl, ?hyq222⟩) (by assumption) ?restq222
                        case hyq222 => (intro W hSw; (try dsimp only at hSw); go_simp; try with_reducible rfl)
                        case' restq222 => try simp only [Act.put, List.setIfInBounds_toArray, List.set_cons_zero, List.set_cons_succ]
                        refine wpAnyH_take (i := 22) (oi := ⟨some 129, _, _, _, _, _⟩) (v := ?vq223) rfl (by kernel_rfl) (by kernel_rfl) (by kernel_rfl) (fun _ _ _ h => h) (Or.inl ⟨by kernel_rfl, ?hyq223⟩) (by assumption) ?restq223
                        case hyq223 => (intro W hSw; (try dsimp only at hSw); go_simp; try with_reducible rfl)
                        case' restq223 => try simp only [Act.put, List.setIfInBounds_toArray, List.set_cons_zero, List.set_cons_succ]
                        refine wpAnyH_take (i := 23) (oi := ⟨some 130, _, _, _, _, _⟩) (v := ?vq224) rfl (by kernel_rfl) (by kernel_rfl) (by kernel_rfl) (fun _ _ _ h => h) (Or.inl ⟨by kernel_rfl, ?hyq224⟩) (by assumption) ?restq224
                        case hyq224 => (intro W hSw; obtain ⟨s1, s2⟩ := HPj.out W hSw; clear hSw; (try dsimp only at hSw); go_simp; try with_reducible rfl)
                        case' restq224 => try simp only [Act.put, List.setIfInBounds_toArray, List.set_cons_zero, List.set_cons_succ]
                        refine wpAnyH_take (i := 24) (oi := ⟨some 131, _, _, _, _, _⟩) (v := ?vq225) rfl (by kernel_rfl) (by kernel_rfl) (by kernel_rfl) (fun _ _ _ h => h) (Or.inl ⟨by kernel_rfl, ?hyq225⟩) (by assumption) ?restq225
                        case hyq225 => (intro W hSw; (try dsimp only at hSw); go_simp; try with_reducible rfl)
                        case' restq225 => try simp only [Act.put, List.setIfInBounds_toArray, List.set_cons_zero, List.set_cons_succ]
                        refine wpAnyH_take (i := 25) (oi := ⟨some 132, _, _, _, _, _⟩) (v := ?vq226) rfl (by kernel_rfl) (by kernel_rfl) (by kernel_rfl) (fun _ _ _ h => h) (Or.inl ⟨by kernel_rfl, ?hyq226⟩) (by assumption) ?restq226
                        case hyq226 => (intro W hSw; (try dsimp only at hSw); go_simp; try with_reducible rfl)
                        case' restq226 => try simp only [Act.put, List.setIfInBounds_toArray, List.set_cons_zero, List.set_cons_succ]
                        refine wpAnyH_take (i := 26) (oi := ⟨some 133, _, _, _, _, _⟩) (v := ?vq227) rfl (by kernel_rfl) (by kernel_rfl) (by kernel_rfl) (fun _ _ _ h => h) (Or.inl ⟨by kernel_rfl, ?hyq227⟩) (by assumption) ?restq227
                        case hyq227 => (intro W hSw; obtain ⟨r0, r1, r2, r3, r4, r5⟩ := HRz.out W hSw; clear hSw; (try dsimp only at hSw); go_simp; try with_reducible rfl)
                        case' restq227 => try simp only [Act.put, List.setIfInBounds_toArray, List.set_cons_zero, List.set_cons_succ]
                        refine wpAnyH_take (i := 27) (oi := ⟨some 134, _, _, _, _, _⟩) (v := ?vq228) rfl (by kernel_rfl) (by kernel_rfl) (by kernel_rfl) (fun _ _ _ h => h) (Or.inl ⟨by kernel_rfl, ?hyq228⟩) (by assumption) ?restq228
                        case hyq228 => (intro W hSw; (try dsimp only at hSw); go_simp; try with_reducible rfl)
                        case' restq228 => try simp only [Act.put, List.setIfInBounds_toArray, List.set_cons_zero, List.set_cons_succ]
                        refine wpAnyH_take (i := 28) (oi := ⟨some 135, _, _, _, _, _⟩) (v := ?vq229) rfl (by kernel_rfl) (by kernel_rfl) (by kernel_rfl) (fun _ _ _ h => h) (Or.inl ⟨by kernel_rfl, ?hyq229⟩) (by assumption) ?restq229
                        case hyq229 => (intro W hSw; (try dsimp only at hSw); go_simp; try with_reducible rfl)
                        case' restq229 => try simp only [Act.put, List.setIfInBounds_toArray, List.set_cons_zero, List.set_cons_succ]
                        refine wpAnyH_take (i := 29) (oi := ⟨some 136, _, _, _, _, _⟩) (v := ?vq230) rfl (by kernel_rfl) (by kernel_rfl) (by kernel_rfl) (fun _ _ _ h => h) (Or.inl ⟨by kernel_rfl, ?hyq230⟩) (by assumption) ?restq230
                        case hyq230 => (intro W hSw; (try dsimp only at hSw); go_simp; try with_reducible rfl)
                        case' restq230 => try simp only [Act.put, List.setIfInBounds_toArray, List.set_cons_zero, List.set_cons_succ]
                        refine wpAnyH_take (i := 30) (oi := ⟨some 137, _, _, _, _, _⟩) (v := undef) rfl (by kernel_rfl) (by kernel_rfl) (by kernel_rfl) (fun _ _ _ h => h) (Or.inr ⟨by kernel_rfl, rfl⟩) (by assumption) ?restq231
                        case' restq231 => try simp only [Act.put, List.setIfInBounds_toArray, List.set_cons_zero, List.set_cons_succ]
                        refine wpAnyH_take (i := 31) (oi := ⟨some 138, _, _, _, _, _⟩) (v := undef) rfl (by kernel_rfl) (by kernel_rfl) (by kernel_rfl) (fun _ _ _ h => h) (Or.inr ⟨by kernel_rfl, rfl⟩) (by assumption) ?restq232
                        case' restq232 => try simp only [Act.put, List.setIfInBounds_toArray, List.set_cons_zero, List.set_cons_succ]
                        refine wpAnyH_take (i := 32) (oi := ⟨some 139, _, _, _, _, _⟩) (v := undef) rfl (by kernel_rfl) (by kernel_rfl) (by kernel_rfl) (fun _ _ _ h => h) (Or.inr ⟨by kernel_rfl, rfl⟩) (by assumption) ?restq233
                        case' restq233 => try simp only [Act.put, List.setIfInBounds_toArray, List.set_cons_zero, List.set_cons_succ]
                        refine wpAnyH_take (i := 33) (oi := ⟨some 140, _, _, _, _, _⟩) (v := undef) rfl (by kernel_rfl) (by kernel_rfl) (by kernel_rfl) (fun _ _ _ h => h) (Or.inr ⟨by kernel_rfl, rfl⟩) (by assumption) ?restq234
                        case' restq234 => try simp only [Act.put, List.setIfInBounds_toArray, List.set_cons_zero, List.set_cons_succ]
                        refine wpAnyH_take (i := 34) (oi := ⟨some 141, _, _, _, _, _⟩) (v := undef) rfl (by kernel_rfl) (by kernel_rfl) (by kernel_rfl) (fun _ _ _ h => h) (Or.inr ⟨by kernel_rfl, rfl⟩) (by assumption) ?restq235
                        case' restq235 => try simp only [Act.put, List.setIfInBounds_toArray, List.set_cons_zero, List.set_cons_succ]
                        refine wpAnyH_take (i := 35) (oi := ⟨some 142, _, _, _, _, _⟩) (v := undef) rfl (by kernel_rfl) (by kernel_rfl) (by kernel_rfl) (fun _ _ _ h => h) (Or.inr ⟨by kernel_rfl, rfl⟩) (by assumption) ?restq236
                        case' restq236 => try simp only [Act.put, List.setIfInBounds_toArray, List.set_cons_zero, List.set_cons_succ]
                        refine wpAnyH_take (i := 36) (oi := ⟨some 143, _, _, _, _, _⟩) (v := undef) rfl (by kernel_rfl) (by kernel_rfl) (by kernel_rfl) (fun _ _ _ h => h) (Or.inr ⟨by kernel_rfl, rfl⟩) (by assumption) ?restq237
                        case' restq237 => try simp only [Act.put, List.setIfInBounds_toArray, List.set_cons_zero, List.set_cons_succ]
                        refine wpAnyH_take (i := 37) (oi := ⟨some 144, _, _, _, _, _⟩) (v := ?vq238) rfl (by kernel_rfl) (by kernel_rfl) (by kernel_rfl) (fun _ _ _ h => h) (Or.inl ⟨by kernel_rfl, ?hyq238⟩) (by assumption) ?restq238
                        case hyq238 => (intro W hSw; (try dsimp only at hSw); go_simp; try with_reducible rfl)
                        case' restq238 => try simp only [Act.put, List.setIfInBounds_toArray, List.set_cons_zero, List.set_cons_succ]
                        refine wpAnyH_take (i := 38) (oi := ⟨some 15, _, _, _, _, _⟩) (v := ?vq239) rfl (by kernel_rfl) (by kernel_rfl) (by kernel_rfl) (fun _ _ _ h => h) (Or.inl ⟨by kernel_rfl, ?hyq239⟩) (by assumption) ?restq239
                        case hyq239 => (intro W hSw; (try dsimp only at hSw); go_simp; try with_reducible rfl)
                        case' restq239 => try simp only [Act.put, List.setIfInBounds_toArray, List.set_cons_zero, List.set_cons_succ]
                        refine wpAnyH_done (by kernel_rfl) ?_ _
                        go_wp2_with fail
                        go_meet
                        exact ⟨by rw [HN0.out], hS0⟩
                    · have f2 : decide (py = y) = false := decide_eq_false e2
                      have h2 : (py == y) = false := by simpa using e2
                      by_cases e3 : py = fy
                      · have HN0 := Lib.hid (show decide (px = x ∨ px = fx ∨ py = y ∨ py = fy) = true from decide_eq_true (by omega))
                        subst e3
                        as_aux_lemma =>
                          have hS0 : (fun W' : World => Below wz.heap.size wz W') wq.drew := HKq.out.drew
                          refine wp_region_held_drew (S := (fun W' : World => Below wz.heap.size wz W')) (by kernel_rfl) hS0 (fun hHeld => ?_)
                          clear hHeld
                          generalize wq.drew = wy at *
                          refine wpAnyH_take (i := 0) (oi := ⟨some 107, _, _, _, _, _⟩) (v := ?vq31) rfl (by kernel_rfl) (by kernel_rfl) (by kernel_rfl) (fun _ _ _ h => h) (Or.inl ⟨by kernel_rfl, ?hyq31⟩) (by assumption) ?restq31
                          case hyq31 => (intro W hSw; (try dsimp only at hSw); go_simp; try with_reducible rfl)
                          case' restq31 => try simp only [Act.put, List.setIfInBounds_toArray, List.set_cons_zero, List.set_cons_succ]
                          refine wpAnyH_take (i := 1) (oi := ⟨some 108, _, _, _, _, _⟩) (v := ?vq32) rfl (by kernel_rfl) (by kernel_rfl) (by kernel_rfl) (fun _ _ _ h => h) (Or.inl ⟨by kernel_rfl, ?hyq32⟩) (by assumption) ?restq32
                          case hyq32 => (intro W hSw; (try dsimp only at hSw); go_simp; try with_reducible rfl)
                          case' restq32 => try simp only [Act.put, List.setIfInBounds_toArray, List.set_cons_zero, List.set_cons_succ]
                          refine wpAnyH_take (i := 2) (oi := ⟨some 109, _, _, _, _, _⟩) (v := ?vq33) rfl (by kernel_rfl) (by kernel_rfl) (by kernel_rfl) (fun _ _ _ h => h) (Or.inl ⟨by kernel_rfl, ?hyq33⟩) (by assumption) ?restq33
                          case hyq33 => (intro W hSw; (try dsimp only at hSw); go_simp; try with_reducible rfl)
                          case' restq33 => try simp only [Act.put, List.setIfInBounds_toArray, List.set_cons_zero, List.set_cons_succ]
                          refine wpAnyH_take (i := 3) (oi := ⟨some 110, _, _, _, _, _⟩) (v := ?vq34) rfl (by kernel_rfl) (by kernel_rfl) (by kernel_rfl) (fun _ _ _ h => h) (Or.inl ⟨by kernel_rfl, ?hyq34⟩) (by assumption) ?restq34
                          case hyq34 => (intro W hSw; (try dsimp only at hSw); go_simp; try with_reducible rfl)
                          case' restq34 => try simp only [Act.put, List.setIfInBounds_toArray, List.set_cons_zero, List.set_cons_succ]
                          refine wpAnyH_take (i := 4) (oi := ⟨some 111, _, _, _, _, _⟩) (v := ?vq35) rfl (by kernel_rfl) (by kernel_rfl) (by kernel_rfl) (fun _ _ _ h => h) (Or.inl ⟨by kernel_rfl, ?hyq35⟩) (by assumption) ?restq35
                          case hyq35 => (intro W hSw; obtain ⟨s1, s2⟩ := HPj.out W hSw; clear hSw; (try dsimp only at hSw); go_simp; try with_reducible rfl)
                          case' restq35 => try simp only [Act.put, List.setIfInBounds_toArray, List.set_cons_zero, List.set_cons_succ]
                          refine wpAnyH_take (i := 5) (oi := ⟨some 112, _, _, _, _, _⟩) (v := ?vq36) rfl (by kernel_rfl) (by kernel_rfl) (by kernel_rfl) (fun _ _ _ h => h) (Or.inl ⟨by kernel_rfl, ?hyq36⟩) (by assumption) ?restq36
                          case hyq36 => (intro W hSw; (try dsimp only at hSw); go_simp; try with_reducible rfl)
                          case' restq36 => try simp only [Act.put, List.setIfInBounds_toArray, List.set_cons_zero, List.set_cons_succ]
                          refine wpAnyH_take (i := 6) (oi := ⟨some 113, _, _, _, _, _⟩) (v := ?vq37) rfl (by kernel_rfl) (by kernel_rfl) (by kernel_rfl) (fun _ _ _ h => h) (Or.inl ⟨by kernel_rfl, ?hyq37⟩) (by assumption) ?restq37
                          case hyq37 => (intro W hSw; (try dsimp only at hSw); go_simp; try with_reducible rfl)
                          case' restq37 => try simp only [Act.put, List.setIfInBounds_toArray, List.set_cons_zero, List.set_cons_succ]
                          refine wpAnyH_take (i := 7) (oi := ⟨some 114, _, _, _, _, _⟩) (v := ?vq38) rfl (by kernel_rfl) (by kernel_rfl) (by kernel_rfl) (fun _ _ _ h => h) (Or.inl ⟨by kernel_rfl, ?hyq38⟩) (by assumption) ?restq38
                          case hyq38 => (intro W hSw; obtain ⟨r0, r1, r2, r3, r4, r5⟩ := HRz.out W hSw; clear hSw; (try dsimp only at hSw); go_simp; try with_reducible rfl)
                          case' restq38 => try simp only [Act.put, List.setIfInBounds_toArray, List.set_cons_zero, List.set_cons_succ]
                          refine wpAnyH_take (i := 8) (oi := ⟨some 115, _, _, _, _, _⟩) (v := ?vq39) rfl (by kernel_rfl) (by kernel_rfl) (by kernel_rfl) (fun _ _ _ h => h) (Or.inl ⟨by kernel_rfl, ?hyq39⟩) (by assumption) ?restq39
                          case hyq39 => (intro W hSw; (try dsimp only at hSw); go_simp; try with_reducible rfl)
                          case' restq39 => try simp only [Act.put, List.setIfInBounds_toArray, List.set_cons_zero, List.set_cons_succ]
                          refine wpAnyH_take (i := 9) (oi := ⟨some 116, _, _, _, _, _⟩) (v := ?vq310) rfl (by kernel_rfl) (by kernel_rfl) (by kernel_rfl) (fun _ _ _ h => h) (Or.inl ⟨by kernel_rfl, ?hyq310⟩) (by assumption) ?restq310
                          case hyq310 => (intro W hSw; (try dsimp only at hSw); go_simp; try with_reducible rfl)
                          case' restq310 => try simp only [Act.put, List.setIfInBounds_toArray, List.set_cons_zero, List.set_cons_succ]
                          refine wpAnyH_take (i := 10) (oi := ⟨some 117, _, _, _, _, _⟩) (v := ?vq311) rfl (by kernel_rfl) (by kernel_rfl) (by kernel_rfl) (fun _ _ _ h => h) (Or.inl ⟨by kernel_rfl, ?hyq311⟩) (by assumption) ?restq311
                          case hyq311 => (intro W hSw; (try dsimp only at hSw); go_simp; try with_reducible rfl)
                          case' restq311 => try simp only [Act.put, List.setIfInBounds_toArray, List.set_cons_zero, List.set_cons_succ]
                          refine wpAnyH_take (i := 11) (oi := ⟨some 118, _, _, _, _, _⟩) (v := ?vq312) rfl (by kernel_rfl) (by kernel_rfl) (by kernel_rfl) (fun _ _ _ h => h) (Or.inl ⟨by kernel_rfl, ?hyq312⟩) (by assumption) ?restq312
                          case hyq312 => (intro W hSw; (try dsimp only at hSw); go_simp; try with_reducible rfl)
                          case' restq312 => try simp only [Act.put, List.setIfInBounds_toArray, List.set_cons_zero, List.set_cons_succ]
                          refine wpAnyH_take (i := 12) (oi := ⟨some 119, _, _, _, _, _⟩) (v := ?vq313) rfl (by kernel_rfl) (by kernel_rfl) (by kernel_rfl) (fun _ _ _ h => h) (Or.inl ⟨by kernel_rfl, ?hyq313⟩) (by assumption) ?restq313
                          case hyq313 => (intro W hSw; (try dsimp only at hSw); go_simp; try with_reducible rfl)
                          case' restq313 => try simp only [Act.put, List.setIfInBounds_toArray, List.set_cons_zero, List.set_cons_succ]
                          refine wpAnyH_take (i := 13) (oi := ⟨some 120, _, _, _, _, _⟩) (v := ?vq314) rfl (by kernel_rfl) (by kernel_rfl) (by kernel_rfl) (fun _ _ _ h => h) (Or.inl ⟨by kernel_rfl, ?hyq314⟩) (by assumption) ?restq314
                          case hyq314 => (intro W hSw; (try dsimp only at hSw); go_simp; try with_reducible rfl)
                          case' restq314 => try simp only [Act.put, List.setIfInBounds_toArray, List.set_cons_zero, List.set_cons_succ]
                          refine wpAnyH_take (i := 14) (oi := ⟨some 121, _, _, _, _, _⟩) (v := ?vq315) rfl (by kernel_rfl) (by kernel_rfl) (by kernel_rfl) (fun _ _ _ h => h) (Or.inl ⟨by kernel_rfl, ?hyq315⟩) (by assumption) ?restq315
                          case hyq315 => (intro W hSw; obtain ⟨s1, s2⟩ := HPj.out W hSw; clear hSw; (try dsimp only at hSw); go_simp; try with_reducible rfl)
                          case' restq315 => try simp only [Act.put, List.setIfInBounds_toArray, List.set_cons_zero, List.set_cons_succ]
                          refine wpAnyH_take (i := 15) (oi := ⟨some 122, _, _, _, _, _⟩) (v := ?vq316) rfl (by kernel_rfl) (by kernel_rfl) (by kernel_rfl) (fun _ _ _ h => h) (Or.inl ⟨by kernel_rfl, ?hyq316⟩) (by assumption) ?restq316
                          case hyq316 => (intro W hSw; (try dsimp only at hSw); go_simp; try with_reducible rfl)
                          case' restq316 => try simp only [Act.put, List.setIfInBounds_toArray, List.set_cons_zero, List.set_cons_succ]
                          refine wpAnyH_take (i := 16) (oi := ⟨some 123, _, _, _, _, _⟩) (v := ?vq317) rfl (by kernel_rfl) (by kernel_rfl) (by kernel_rfl) (fun _ _ _ h => h) (Or.inl ⟨by kernel_rfl, ?hyq317⟩) (by assumption) ?restq317
                          case hyq317 => (intro W hSw; (try dsimp only at hSw); go_simp; try with_reducible rfl)
                          case' restq317 => try simp only [Act.put, List.setIfInBounds_toArray, List.set_cons_zero, List.set_cons_succ]
                          refine wpAnyH_take (i := 17) (oi := ⟨some 124, _, _, _, _, _⟩) (v := ?vq318) rfl (by kernel_rfl) (by kernel_rfl) (by kernel_rfl) (fun _ _ _ h => h) (Or.inl ⟨by kernel_rfl, ?hyq318⟩) (by assumption) ?restq318
                          case hyq318 => (intro W hSw; (try dsimp only at hSw); go_simp; try with_reducible rfl)
                          case' restq318 => try simp only [Act.put, List.setIfInBounds_toArray, List.set_cons_zero, List.set_cons_succ]
                          refine wpAnyH_take (i := 18) (oi := ⟨some 125, _, _, _, _, _⟩) (v := ?vq319) rfl (by kernel_rfl) (by kernel_rfl) (by kernel_rfl) (fun _ _ _ h => h) (Or.inl ⟨by kernel_rfl, ?hyq319⟩) (by assumption) ?restq319
                          case hyq319 => (intro W hSw; (try dsimp only at hSw); go_simp; try with_reducible rfl)
                          case' restq319 => try simp only [Act.put, List.setIfInBounds_toArray, List.set_cons_zero, List.set_cons_succ]
                          refine wpAnyH_take (i := 19) (oi := ⟨some 126, _, _, _, _, _⟩) (v := ?vq320) rfl (by kernel_rfl) (by kernel_rfl) (by kernel_rfl) (fun _ _ _ h => h) (Or.inl ⟨by kernel_rfl, ?hyq320⟩) (by assumption) ?restq320
                          case hyq320 => (intro W hSw; (try dsimp only at hSw); go_simp; try with_reducible rfl)
                          case' restq320 => try simp only [Act.put, List.setIfInBounds_toArray, List.set_cons_zero, List.set_cons_succ]
                          refine wpAnyH_take (i := 20) (oi := ⟨some 127, _, _, _, _, _⟩) (v := ?vq321) rfl (by kernel_rfl) (by kernel_rfl) (by kernel_rfl) (fun _ _ _ h => h) (Or.inl ⟨by kernel_rfl, ?hyq321⟩) (by assumption) ?restq321
                          case hyq321 => (intro W hSw; (try dsimp only at hSw); go_simp; try with_reducible rfl)
                          case' restq321 => try simp only [Act.put, List.setIfInBounds_toArray, List.set_cons_zero, List.set_cons_succ]
                          refine wpAnyH_take (i := 21) (oi := ⟨some 128, _, _, _, _, _⟩) (v := ?vq322) rfl (by kernel_rfl) (by kernel_rfl) (by kernel_rfl) (fun _ _ _ h => h) (Or.inl ⟨by kernel_rfl, ?hyq322⟩) (by assumption) ?restq322
                          case hyq322 => (intro W hSw; (try dsimp only at hSw); go_simp; try with_reducible rfl)
                          case' restq322 => try simp only [Act.put, List.setIfInBounds_toArray, List.set_cons_zero, List.set_cons_succ]
                          refine wpAnyH_take (i := 22) (oi := ⟨some 129, _, _, _, _, _⟩) (v := ?vq323) rfl (by kernel_rfl) (by kernel_rfl) (by kernel_rfl) (fun _ _ _ h => h) (Or.inl ⟨by kernel_rfl, ?hyq323⟩) (by assumption) ?restq323
                          case hyq323 => (intro W hSw; (try dsimp only at hSw); go_simp; try with_reducible rfl)
                          case' restq323 => try simp only [Act.put, List.setIfInBounds_toArray, List.set_cons_zero, List.set_cons_succ]
                          refine wpAnyH_take (i := 23) (oi := ⟨some 130, _, _, _, _, _⟩) (v := ?vq324) rfl (by kernel_rfl) (by kernel_rfl) (by kernel_rfl) (fun _ _ _ h => h) (Or.inl ⟨by kernel_rfl, ?hyq324⟩) (by assumption) ?restq324
                          case hyq324 => (intro W hSw; obtain ⟨s1, s2⟩ := HPj.out W hSw; clear hSw; (try dsimp only at hSw); go_simp; try with_reducible rfl)
                          case' restq324 => try simp only [Act.put, List.setIfInBounds_toArray, List.set_cons_zero, List.set_cons_succ]
                          refine wpAnyH_take (i := 24) (oi := ⟨some 131, _, _, _, _, _⟩) (v := ?vq325) rfl (by kernel_rfl) (by kernel_rfl) (by kernel_rfl) (fun _ _ _ h => h) (Or.inl ⟨by kernel_rfl, ?hyq325⟩) (by assumption) ?restq325
                          case hyq325 => (intro W hSw; (try dsimp only at hSw); go_simp; try with_reducible rfl)
                          case' restq325 => try simp only [Act.put, List.setIfInBounds_toArray, List.set_cons_zero, List.set_cons_succ]
                          refine wpAnyH_take (i := 25) (oi := ⟨some 132, _, _, _, _, _⟩) (v := ?vq326) rfl (by kernel_rfl) (by kernel_rfl) (by kernel_rfl) (fun _ _ _ h => h) (Or.inl ⟨by kernel_rfl, ?hyq326⟩) (by assumption) ?restq326
                          case hyq326 => (intro W hSw; (try dsimp only at hSw); go_simp; try with_reducible rfl)
                          case' restq326 => try simp only [Act.put, List.setIfInBounds_toArray, List.set_cons_zero, List.set_cons_succ]
                          refine wpAnyH_take (i := 26) (oi := ⟨some 133, _, _, _, _, _⟩) (v := ?vq327) rfl (by kernel_rfl) (by kernel_rfl) (by kernel_rfl) (fun _ _ _ h => h) (Or.inl ⟨by kernel_rfl, ?hyq327⟩) (by assumption) ?restq327
                          case hyq327 => (intro W hSw; obtain ⟨r0, r1, r2, r3, r4, r5⟩ := HRz.out W hSw; clear hSw; (try dsimp only at hSw); go_simp; try with_reducible rfl)
                          case' restq327 => try simp only [Act.put, List.setIfInBounds_toArray, List.set_cons_zero, List.set_cons_succ]
                          refine wpAnyH_take (i := 27) (oi := ⟨some 134, _, _, _, _, _⟩) (v := ?vq328) rfl (by kernel_rfl) (by kernel_rfl) (by kernel_rfl) (fun _ _ _ h => h) (Or.inl ⟨by kernel_rfl, ?hyq328⟩) (by assumption) ?restq328
                          case hyq328 => (intro W hSw; (try dsimp only at hSw); go_simp; try with_reducible rfl)
                          case' restq328 => try simp only [Act.put, List.setIfInBounds_toArray, List.set_cons_zero, List.set_cons_succ]
                          refine wpAnyH_take (i := 28) (oi := ⟨some 135, _, _, _, _, _⟩) (v := ?vq329) rfl (by kernel_rfl) (by kernel_rfl) (by kernel_rfl) (fun _ _ _ h => h) (Or.inl ⟨by kernel_rfl, ?hyq329⟩) (by assumption) ?restq329
                          case hyq329 => (intro W hSw; (try dsimp only at hSw); go_simp; try with_reducible rfl)
                          case' restq329 => try simp only [Act.put, List.setIfInBounds_toArray, List.set_cons_zero, List.set_cons_succ]
                          refine wpAnyH_take (i := 29) (oi := ⟨some 136, _, _, _, _, _⟩) (v := ?vq330) rfl (by kernel_rfl) (by kernel_rfl) (by kernel_rfl) (fun _ _ _ h => h) (Or.inl ⟨by kernel_rfl, ?hyq330⟩) (by assumption) ?restq330
                          case hyq330 => (intro W hSw; (try dsimp only at hSw); go_simp; try with_reducible rfl)
                          case' restq330 => try simp only [Act.put, List.setIfInBounds_toArray, List.set_cons_zero, List.set_cons_succ]
                          refine wpAnyH_take (i := 30) (oi := ⟨some 137, _, _, _, _, _⟩) (v := ?vq331) rfl (by kernel_rfl) (by kernel_rfl) (by kernel_rfl) (fun _ _ _ h => h) (Or.inl ⟨by kernel_rfl, ?hyq331⟩) (by assumption) ?restq331
                          case hyq331 => (intro W hSw; (try dsimp only at hSw); go_simp; try with_reducible rfl)
                          case' restq331 => try simp only [Act.put, List.setIfInBounds_toArray, List.set_cons_zero, List.set_cons_succ]
                          refine wpAnyH_take (i := 31) (oi := ⟨some 138, _, _, _, _, _⟩) (v := ?vq332) rfl (by kernel_rfl) (by kernel_rfl) (by kernel_rfl) (fun _ _ _ h => h) (Or.inl ⟨by kernel_rfl, ?hyq332⟩) (by assumption) ?restq332
                          case hyq332 => (intro W hSw; (try dsimp only at hSw); go_simp; try with_reducible rfl)
                          case' restq332 => try simp only [Act.put, List.setIfInBounds_toArray, List.set_cons_zero, List.set_cons_succ]
                          refine wpAnyH_take (i := 32) (oi := ⟨some 139, _, _, _, _, _⟩) (v := ?vq333) rfl (by kernel_rfl) (by kernel_rfl) (by kernel_rfl) (fun _ _ _ h => h) (Or.inl ⟨by kernel_rfl, ?hyq333⟩) (by assumption) ?restq333
                          case hyq333 => (intro W hSw; (try dsimp only at hSw); go_simp; try with_reducible rfl)
                          case' restq333 => try simp only [Act.put, List.setIfInBounds_toArray, List.set_cons_zero, List.set_cons_succ]
                          refine wpAnyH_take (i := 33) (oi := ⟨some 140, _, _, _, _, _⟩) (v := ?vq334) rfl (by kernel_rfl) (by kernel_rfl) (by kernel_rfl) (fun _ _ _ h => h) (Or.inl ⟨by kernel_rfl, ?hyq334⟩) (by assumption) ?restq334
                          case hyq334 => (intro W hSw; (try dsimp only at hSw); go_simp; try with_reducible rfl)
                          case' restq334 => try simp only [Act.put, List.setIfInBounds_toArray, List.set_cons_zero, List.set_cons_succ]
                          refine wpAnyH_take (i := 34) (oi := ⟨some 141, _, _, _, _, _⟩) (v := ?vq335) rfl (by kernel_rfl) (by kernel_rfl) (by kernel_rfl) (fun _ _ _ h => h) (Or.inl ⟨by kernel_rfl, ?hyq335⟩) (by assumption) ?restq335
                          case hyq335 => (intro W hSw; obtain ⟨s1, s2⟩ := HPj.out W hSw; clear hSw; (try dsimp only at hSw); go_simp; try with_reducible rfl)
                          case' restq335 => try simp only [Act.put, List.setIfInBounds_toArray, List.set_cons_zero, List.set_cons_succ]
                          refine wpAnyH_take (i := 35) (oi := ⟨some 142, _, _, _, _, _⟩) (v := ?vq336) rfl (by kernel_rfl) (by kernel_rfl) (by kernel_rfl) (fun _ _ _ h => h) (Or.inl ⟨by kernel_rfl, ?hyq336⟩) (by assumption) ?restq336
                          case hyq336 => (intro W hSw; (try dsimp only at hSw); go_simp; try with_reducible rfl)
                          case' restq336 => try simp only [Act.put, List.setIfInBounds_toArray, List.set_cons_zero, List.set_cons_succ]
                          refine wpAnyH_take (i := 36) (oi := ⟨some 143, _, _, _, _, _⟩) (v := ?vq337) rfl (by kernel_rfl) (by kernel_rfl) (by kernel_rfl) (fun _ _ _ h => h) (Or.inl ⟨by kernel_rfl, ?hyq337⟩) (by assumption) ?restq337
                          case hyq337 => (intro W hSw; (try dsimp only at hSw); go_simp; try with_reducible rfl)
                          case' restq337 => try simp only [Act.put, List.setIfInBounds_toArray, List.set_cons_zero, List.set_cons_succ]
                          refine wpAnyH_take (i := 37) (oi := ⟨some 144, _, _, _, _, _⟩) (v := ?vq338) rfl (by kernel_rfl) (by kernel_rfl) (by kernel_rfl) (fun _ _ _ h => h) (Or.inl ⟨by kernel_rfl, ?hyq338⟩) (by assumption) ?restq338
                          case hyq338 => (intro W hSw; (try dsimp only at hSw); go_simp; try with_reducible rfl)
                          case' restq338 => try simp only [Act.put, List.setIfInBounds_toArray, List.set_cons_zero, List.set_cons_succ]
                          refine wpAnyH_take (i := 38) (oi := ⟨some 15, _, _, _, _, _⟩) (v := ?vq339) rfl (by kernel_rfl) (by kernel_rfl) (by kernel_rfl) (fun _ _ _ h => h) (Or.inl ⟨by kernel_rfl, ?hyq339⟩) (by assumption) ?restq339
                          case hyq339 => (intro W hSw; (try dsimp only at hSw); go_simp; try with_reducible rfl)
                          case' restq339 => try simp only [Act.put, List.setIfInBounds_toArray, List.set_cons_zero, List.set_cons_succ]
                          refine wpAnyH_done (by kernel_rfl) ?_ _
                          go_wp2_with fail
                          go_meet
                          exact ⟨by rw [HN0.out], hS0⟩
                      · have f3 : decide (py = fy) = false := decide_eq_false e3
                        have h3 : (py == fy) = false := by simpa using e3
                        have HN0 := Lib.hid (show decide (px = x ∨ px = fx ∨ py = y ∨ py = fy) = false from decide_eq_false (by omega))
                        as_aux_lemma =>
                          have hS0 : (fun W' : World => Below wz.heap.size wz W') wq.drew := HKq.out.drew
                          refine wp_region_held_drew (S := (fun W' : World => Below wz.heap.size wz W')) (by kernel_rfl) hS0 (fun hHeld => ?_)
                          clear hHeld
                          generalize wq.drew = wy at *
                          refine wpAnyH_take (i := 0) (oi := ⟨some 107, _, _, _, _, _⟩) (v := ?vq41) rfl (by kernel_rfl) (by kernel_rfl) (by kernel_rfl) (fun _ _ _ h => h) (Or.inl ⟨by kernel_rfl, ?hyq41⟩) (by assumption) ?restq41
                          case hyq41 => (intro W hSw; (try dsimp only at hSw); go_simp; try with_reducible rfl)
                          case' restq41 => try simp only [Act.put, List.setIfInBounds_toArray, List.set_cons_zero, List.set_cons_succ]
                          refine wpAnyH_take (i := 1) (oi := ⟨some 108, _, _, _, _, _⟩) (v := ?vq42) rfl (by kernel_rfl) (by kernel_rfl) (by kernel_rfl) (fun _ _ _ h => h) (Or.inl ⟨by kernel_rfl, ?hyq42⟩) (by assumption) ?restq42
                          case hyq42 => (intro W hSw; (try dsimp only at hSw); go_simp; try with_reducible rfl)
                          case' restq42 => try simp only [Act.put, List.setIfInBounds_toArray, List.set_cons_zero, List.set_cons_succ]
                          refine wpAnyH_take (i := 2) (oi := ⟨some 109, _, _, _, _, _⟩) (v := ?vq43) rfl (by kernel_rfl) (by kernel_rfl) (by kernel_rfl) (fun _ _ _ h => h) (Or.inl ⟨by kernel_rfl, ?hyq43⟩) (by assumption) ?restq43
                          case hyq43 => (intro W hSw; (try dsimp only at hSw); go_simp; try with_reducible rfl)
                          case' restq43 => try simp only [Act.put, List.setIfInBounds_toArray, List.set_cons_zero, List.set_cons_succ]
                          refine wpAnyH_take (i := 3) (oi := ⟨some 110, _, _, _, _, _⟩) (v := ?vq44) rfl (by kernel_rfl) (by kernel_rfl) (by kernel_rfl) (fun _ _ _ h => h) (Or.inl ⟨by kernel_rfl, ?hyq44⟩) (by assumption) ?restq44
                          case hyq44 => (intro W hSw; (try dsimp only at hSw); go_simp; try with_reducible rfl)
                          case' restq44 => try simp only [Act.put, List.setIfInBounds_toArray, List.set_cons_zero, List.set_cons_succ]
                          refine wpAnyH_take (i := 4) (oi := ⟨some 111, _, _, _, _, _⟩) (v := ?vq45) rfl (by kernel_rfl) (by kernel_rfl) (by kernel_rfl) (fun _ _ _ h => h) (Or.inl ⟨by kernel_rfl, ?hyq45⟩) (by assumption) ?restq45
                          case hyq45 => (intro W hSw; obtain ⟨s1, s2⟩ := HPj.out W hSw; clear hSw; (try dsimp only at hSw); go_simp; try with_reducible rfl)
                          case' restq45 => try simp only [Act.put, List.setIfInBounds_toArray, List.set_cons_zero, List.set_cons_succ]
                          refine wpAnyH_take (i := 5) (oi := ⟨some 112, _, _, _, _, _⟩) (v := ?vq46) rfl (by kernel_rfl) (by kernel_rfl) (by kernel_rfl) (fun _ _ _ h => h) (Or.inl ⟨by kernel_rfl, ?hyq46⟩) (by assumption) ?restq46
                          case hyq46 => (intro W hSw; (try dsimp only at hSw); go_simp; try with_reducible rfl)
                          case' restq46 => try simp only [Act.put, List.setIfInBounds_toArray, List.set_cons_zero, List.set_cons_succ]
                          refine wpAnyH_take (i := 6) (oi := ⟨some 113, _, _, _, _, _⟩) (v := ?vq47) rfl (by kernel_rfl) (by kernel_rfl) (by kernel_rfl) (fun _ _ _ h => h) (Or.inl ⟨by kernel_rfl, ?hyq47⟩) (by assumption) ?restq47
                          case hyq47 => (intro W hSw; (try dsimp only at hSw); go_simp; try with_reducible rfl)
                          case' restq47 => try simp only [Act.put, List.setIfInBounds_toArray, List.set_cons_zero, List.set_cons_succ]
                          refine wpAnyH_take (i := 7) (oi := ⟨some 114, _, _, _, _, _⟩) (v := ?vq48) rfl (by kernel_rfl) (by kernel_rfl) (by kernel_rfl) (fun _ _ _ h => h) (Or.inl ⟨by kernel_rfl, ?hyq48⟩) (by assumption) ?restq48
                          case hyq48 => (intro W hSw; obtain ⟨r0, r1, r2, r3, r4, r5⟩ := HRz.out W hSw; clear hSw; (try dsimp only at hSw); go_simp; try with_reducible rfl)
                          case' restq48 => try simp only [Act.put, List.setIfInBounds_toArray, List.set_cons_zero, List.set_cons_succ]
                          refine wpAnyH_take (i := 8) (oi := ⟨some 115, _, _, _, _, _⟩) (v := ?vq49) rfl (by kernel_rfl) (by kernel_rfl) (by kernel_rfl) (fun _ _ _ h => h) (Or.inl ⟨by kernel_rfl, ?hyq49⟩) (by assumption) ?restq49
                          case hyq49 => (intro W hSw; (try dsimp only at hSw); go_simp; try with_reducible rfl)
                          case' restq49 => try simp only [Act.put, List.setIfInBounds_toArray, List.set_cons_zero, List.set_cons_succ]
                          refine wpAnyH_take (i := 9) (oi := ⟨some 116, _, _, _, _, _⟩) (v := ?vq410) rfl (by kernel_rfl) (by kernel_rfl) (by kernel_rfl) (fun _ _ _ h => h) (Or.inl ⟨by kernel_rfl, ?hyq410⟩) (by assumption) ?restq410
                          case hyq410 => (intro W hSw; (try dsimp only at hSw); go_simp; try with_reducible rfl)
                          case' restq410 => try simp only [Act.put, List.setIfInBounds_toArray, List.set_cons_zero, List.set_cons_succ]
                          refine wpAnyH_take (i := 10) (oi := ⟨some 117, _, _, _, _, _⟩) (v := ?vq411) rfl (by kernel_rfl) (by kernel_rfl) (by kernel_rfl) (fun _ _ _ h => h) (Or.inl ⟨by kernel_rfl, ?hyq411⟩) (by assumption) ?restq411
                          case hyq411 => (intro W hSw; (try dsimp only at hSw); go_simp; try with_reducible rfl)
                          case' restq411 => try simp only [Act.put, List.setIfInBounds_toArray, List.set_cons_zero, List.set_cons_succ]
                          refine wpAnyH_take (i := 11) (oi := ⟨some 118, _, _, _, _, _⟩) (v := ?vq412) rfl (by kernel_rfl) (by kernel_rfl) (by kernel_rfl) (fun _ _ _ h => h) (Or.inl ⟨by kernel_rfl, ?hyq412⟩) (by assumption) ?restq412
                          case hyq412 => (intro W hSw; (try dsimp only at hSw); go_simp; try with_reducible rfl)
                          case' restq412 => try simp only [Act.put, List.setIfInBounds_toArray, List.set_cons_zero, List.set_cons_succ]
                          refine wpAnyH_take (i := 12) (oi := ⟨some 119, _, _, _, _, _⟩) (v := ?vq413) rfl (by kernel_rfl) (by kernel_rfl) (by kernel_rfl) (fun _ _ _ h => h) (Or.inl ⟨by kernel_rfl, ?hyq413⟩) (by assumption) ?restq413
                          case hyq413 => (intro W hSw; (try dsimp only at hSw); go_simp; try with_reducible rfl)
                          case' restq413 => try simp only [Act.put, List.setIfInBounds_toArray, List.set_cons_zero, List.set_cons_succ]
                          refine wpAnyH_take (i := 13) (oi := ⟨some 120, _, _, _, _, _⟩) (v := ?vq414) rfl (by kernel_rfl) (by kernel_rfl) (by kernel_rfl) (fun _ _ _ h => h) (Or.inl ⟨by kernel_rfl, ?hyq414⟩) (by assumption) ?restq414
                          case hyq414 => (intro W hSw; (try dsimp only at hSw); go_simp; try with_reducible rfl)
                          case' restq414 => try simp only [Act.put, List.setIfInBounds_toArray, List.set_cons_zero, List.set_cons_succ]
                          refine wpAnyH_take (i := 14) (oi := ⟨some 121, _, _, _, _, _⟩) (v := ?vq415) rfl (by kernel_rfl) (by kernel_rfl) (by kernel_rfl) (fun _ _ _ h => h) (Or.inl ⟨by kernel_rfl, ?hyq415⟩) (by assumption) ?restq415
                          case hyq415 => (intro W hSw; obtain ⟨s1, s2⟩ := HPj.out W hSw; clear hSw; (try dsimp only at hSw); go_simp; try with_reducible rfl)
                          case' restq415 => try simp only [Act.put, List.setIfInBounds_toArray, List.set_cons_zero, List.set_cons_succ]
                          refine wpAnyH_take (i := 15) (oi := ⟨some 122, _, _, _, _, _⟩) (v := ?vq416) rfl (by kernel_rfl) (by kernel_rfl) (by kernel_rfl) (fun _ _ _ h => h) (Or.inl ⟨by kernel_rfl, ?hyq416⟩) (by assumption) ?restq416
                          case hyq416 => (intro W hSw; (try dsimp only at hSw); go_simp; try with_reducible rfl)
                          case' restq416 => try simp only [Act.put, List.setIfInBounds_toArray, List.set_cons_zero, List.set_cons_succ]
                          refine wpAnyH_take (i := 16) (oi := ⟨some 123, _, _, _, _, _⟩) (v := ?vq417) rfl (by kernel_rfl) (by kernel_rfl) (by kernel_rfl) (fun _ _ _ h => h) (Or.inl ⟨by kernel_rfl, ?hyq417⟩) (by assumption) ?restq417
                          case hyq417 => (intro W hSw; (try dsimp only at hSw); go_simp; try with_reducible rfl)
                          case' restq417 => try simp only [Act.put, List.setIfInBounds_toArray, List.set_cons_zero, List.set_cons_succ]
                          refine wpAnyH_take (i := 17) (oi := ⟨some 124, _, _, _, _, _⟩) (v := ?vq418) rfl (by kernel_rfl) (by kernel_rfl) (by kernel_rfl) (fun _ _ _ h => h) (Or.inl ⟨by kernel_rfl, ?hyq418⟩) (by assumption) ?restq418
                          case hyq418 => (intro W hSw; (try dsimp only at hSw); go_simp; try with_reducible rfl)
                          case' restq418 => try simp only [Act.put, List.setIfInBounds_toArray, List.set_cons_zero, List.set_cons_succ]
                          refine wpAnyH_take (i := 18) (oi := ⟨some 125, _, _, _, _, _⟩) (v := ?vq419) rfl (by kernel_rfl) (by kernel_rfl) (by kernel_rfl) (fun _ _ _ h => h) (Or.inl ⟨by kernel_rfl, ?hyq419⟩) (by assumption) ?restq419
                          case hyq419 => (intro W hSw; (try dsimp only at hSw); go_simp; try with_reducible rfl)
                          case' restq419 => try simp only [Act.put, List.setIfInBounds_toArray, List.set_cons_zero, List.set_cons_succ]
                          refine wpAnyH_take (i := 19) (oi := ⟨some 126, _, _, _, _, _⟩) (v := ?vq420) rfl (by kernel_rfl) (by kernel_rfl) (by kernel_rfl) (fun _ _ _ h => h) (Or.inl ⟨by kernel_rfl, ?hyq420⟩) (by assumption) ?restq420
                          case hyq420 => (intro W hSw; (try dsimp only at hSw); go_simp; try with_reducible rfl)
                          case' restq420 => try simp only [Act.put, List.setIfInBounds_toArray, List.set_cons_zero, List.set_cons_succ]
                          refine wpAnyH_take (i := 20) (oi := ⟨some 127, _, _, _, _, _⟩) (v := ?vq421) rfl (by kernel_rfl) (by kernel_rfl) (by kernel_rfl) (fun _ _ _ h => h) (Or.inl ⟨by kernel_rfl, ?hyq421⟩) (by assumption) ?restq421
                          case hyq421 => (intro W hSw; (try dsimp only at hSw); go_simp; try with_reducible rfl)
                          case' restq421 => try simp only [Act.put, List.setIfInBounds_toArray, List.set_cons_zero, List.set_cons_succ]
                          refine wpAnyH_take (i := 21) (oi := ⟨some 128, _, _, _, _, _⟩) (v := ?vq422) rfl (by kernel_rfl) (by kernel_rfl) (by kernel_rfl) (fun _ _ _ h => h) (Or.inl ⟨by kernel_rfl, ?hyq422⟩) (by assumption) ?restq422
                          case hyq422 => (intro W hSw; (try dsimp only at hSw); go_simp; try with_reducible rfl)
                          case' restq422 => try simp only [Act.put, List.setIfInBounds_toArray, List.set_cons_zero, List.set_cons_succ]
                          refine wpAnyH_take (i := 22) (oi := ⟨some 129, _, _, _, _, _⟩) (v := ?vq423) rfl (by kernel_rfl) (by kernel_rfl) (by kernel_rfl) (fun _ _ _ h => h) (Or.inl ⟨by kernel_rfl, ?hyq423⟩) (by assumption) ?restq423
                          case hyq423 => (intro W hSw; (try dsimp only at hSw); go_simp; try with_reducible rfl)
                          case' restq423 => try simp only [Act.put, List.setIfInBounds_toArray, List.set_cons_zero, List.set_cons_succ]
                          refine wpAnyH_take (i := 23) (oi := ⟨some 130, _, _, _, _, _⟩) (v := ?vq424) rfl (by kernel_rfl) (by kernel_rfl) (by kernel_rfl) (fun _ _ _ h => h) (Or.inl ⟨by kernel_rfl, ?hyq424⟩) (by assumption) ?restq424
                          case hyq424 => (intro W hSw; obtain ⟨s1, s2⟩ := HPj.out W hSw; clear hSw; (try dsimp only at hSw); go_simp; try with_reducible rfl)
                          case' restq424 => try simp only [Act.put, List.setIfInBounds_toArray, List.set_cons_zero, List.set_cons_succ]
                          refine wpAnyH_take (i := 24) (oi := ⟨some 131, _, _, _, _, _⟩) (v := ?vq425) rfl (by kernel_rfl) (by kernel_rfl) (by kernel_rfl) (fun _ _ _ h => h) (Or.inl ⟨by kernel_rfl, ?hyq425⟩) (by assumption) ?restq425
                          case hyq425 => (intro W hSw; (try dsimp only at hSw); go_simp; try with_reducible rfl)
                          case' restq425 => try simp only [Act.put, List.setIfInBounds_toArray, List.set_cons_zero, List.set_cons_succ]
                          refine wpAnyH_take (i := 25) (oi := ⟨some 132, _, _, _, _, _⟩) (v := ?vq426) rfl (by kernel_rfl) (by kernel_rfl) (by kernel_rfl) (fun _ _ _ h => h) (Or.inl ⟨by kernel_rfl, ?hyq426⟩) (by assumption) ?restq426
                          case hyq426 => (intro W hSw; (try dsimp only at hSw); go_simp; try with_reducible rfl)
                          case' restq426 => try simp only [Act.put, List.setIfInBounds_toArray, List.set_cons_zero, List.set_cons_succ]
                          refine wpAnyH_take (i := 26) (oi := ⟨some 133, _, _, _, _, _⟩) (v := ?vq427) rfl (by kernel_rfl) (by kernel_rfl) (by kernel_rfl) (fun _ _ _ h => h) (Or.inl ⟨by kernel_rfl, ?hyq427⟩) (by assumption) ?restq427
                          case hyq427 => (intro W hSw; obtain ⟨r0, r1, r2, r3, r4, r5⟩ := HRz.out W hSw; clear hSw; (try dsimp only at hSw); go_simp; try with_reducible rfl)
                          case' restq427 => try simp only [Act.put, List.setIfInBounds_toArray, List.set_cons_zero, List.set_cons_succ]
                          refine wpAnyH_take (i := 27) (oi := ⟨some 134, _, _, _, _, _⟩) (v := ?vq428) rfl (by kernel_rfl) (by kernel_rfl) (by kernel_rfl) (fun _ _ _ h => h) (Or.inl ⟨by kernel_rfl, ?hyq428⟩) (by assumption) ?restq428
                          case hyq428 => (intro W hSw; (try dsimp only at hSw); go_simp; try with_reducible rfl)
                          case' restq428 => try simp only [Act.put, List.setIfInBounds_toArray, List.set_cons_zero, List.set_cons_succ]
                          refine wpAnyH_take (i := 28) (oi := ⟨some 135, _, _, _, _, _⟩) (v := ?vq429) rfl (by kernel_rfl) (by kernel_rfl) (by kernel_rfl) (fun _ _ _ h => h) (Or.inl ⟨by kernel_rfl, ?hyq429⟩) (by assumption) ?restq429
                          case hyq429 => (intro W hSw; (try dsimp only at hSw); go_simp; try with_reducible rfl)
                          case' restq429 => try simp only [Act.put, List.setIfInBounds_toArray, List.set_cons_zero, List.set_cons_succ]
                          refine wpAnyH_take (i := 29) (oi := ⟨some 136, _, _, _, _, _⟩) (v := ?vq430) rfl (by kernel_rfl) (by kernel_rfl) (by kernel_rfl) (fun _ _ _ h => h) (Or.inl ⟨by kernel_rfl, ?hyq430⟩) (by assumption) ?restq430
                          case hyq430 => (intro W hSw; (try dsimp only at hSw); go_simp; try with_reducible rfl)
                          case' restq430 => try simp only [Act.put, List.setIfInBounds_toArray, List.set_cons_zero, List.set_cons_succ]
                          refine wpAnyH_take (i := 30) (oi := ⟨some 137, _, _, _, _, _⟩) (v := ?vq431) rfl (by kernel_rfl) (by kernel_rfl) (by kernel_rfl) (fun _ _ _ h => h) (Or.inl ⟨by kernel_rfl, ?hyq431⟩) (by assumption) ?restq431
                          case hyq431 => (intro W hSw; (try dsimp only at hSw); go_simp; try with_reducible rfl)
                          case' restq431 => try simp only [Act.put, List.setIfInBounds_toArray, List.set_cons_zero, List.set_cons_succ]
                          refine wpAnyH_take (i := 31) (oi := ⟨some 138, _, _, _, _, _⟩) (v := ?vq432) rfl (by kernel_rfl) (by kernel_rfl) (by kernel_rfl) (fun _ _ _ h => h) (Or.inl ⟨by kernel_rfl, ?hyq432⟩) (by assumption) ?restq432
                          case hyq432 => (intro W hSw; (try dsimp only at hSw); go_simp; try with_reducible rfl)
                          case' restq432 => try simp only [Act.put, List.setIfInBounds_toArray, List.set_cons_zero, List.set_cons_succ]
                          refine wpAnyH_take (i := 32) (oi := ⟨some 139, _, _, _, _, _⟩) (v := ?vq433) rfl (by kernel_rfl) (by kernel_rfl) (by kernel_rfl) (fun _ _ _ h => h) (Or.inl ⟨by kernel_rfl, ?hyq433⟩) (by assumption) ?restq433
                          case hyq433 => (intro W hSw; (try dsimp only at hSw); go_simp; try with_reducible rfl)
                          case' restq433 => try simp only [Act.put, List.setIfInBounds_toArray, List.set_cons_zero, List.set_cons_succ]
                          refine wpAnyH_take (i := 33) (oi := ⟨some 140, _, _, _, _, _⟩) (v := ?vq434) rfl (by kernel_rfl) (by kernel_rfl) (by kernel_rfl) (fun _ _ _ h => h) (Or.inl ⟨by kernel_rfl, ?hyq434⟩) (by assumption) ?restq434
                          case hyq434 => (intro W hSw; (try dsimp only at hSw); go_simp; try with_reducible rfl)
                          case' restq434 => try simp only [Act.put, List.setIfInBounds_toArray, List.set_cons_zero, List.set_cons_succ]
                          refine wpAnyH_take (i := 34) (oi := ⟨some 141, _, _, _, _, _⟩) (v := ?vq435) rfl (by kernel_rfl) (by kernel_rfl) (by kernel_rfl) (fun _ _ _ h => h) (Or.inl ⟨by kernel_rfl, ?hyq435⟩) (by assumption) ?restq435
                          case hyq435 => (intro W hSw; obtain ⟨s1, s2⟩ := HPj.out W hSw; clear hSw; (try dsimp only at hSw); go_simp; try with_reducible rfl)
                          case' restq435 => try simp only [Act.put, List.setIfInBounds_toArray, List.set_cons_zero, List.set_cons_succ]
                          refine wpAnyH_take (i := 35) (oi := ⟨some 142, _, _, _, _, _⟩) (v := ?vq436) rfl (by kernel_rfl) (by kernel_rfl) (by kernel_rfl) (fun _ _ _ h => h) (Or.inl ⟨by kernel_rfl, ?hyq436⟩) (by assumption) ?restq436
                          case hyq436 => (intro W hSw; (try dsimp only at hSw); go_simp; try with_reducible rfl)
                          case' restq436 => try simp only [Act.put, List.setIfInBounds_toArray, List.set_cons_zero, List.set_cons_succ]
                          refine wpAnyH_take (i := 36) (oi := ⟨some 143, _, _, _, _, _⟩) (v := ?vq437) rfl (by kernel_rfl) (by kernel_rfl) (by kernel_rfl) (fun _ _ _ h => h) (Or.inl ⟨by kernel_rfl, ?hyq437⟩) (by assumption) ?restq437
                          case hyq437 => (intro W hSw; (try dsimp only at hSw); go_simp; try with_reducible rfl)
                          case' restq437 => try simp only [Act.put, List.setIfInBounds_toArray, List.set_cons_zero, List.set_cons_succ]
                          refine wpAnyH_take (i := 37) (oi := ⟨some 144, _, _, _, _, _⟩) (v := ?vq438) rfl (by kernel_rfl) (by kernel_rfl) (by kernel_rfl) (fun _ _ _ h => h) (Or.inl ⟨by kernel_rfl, ?hyq438⟩) (by assumption) ?restq438
                          case hyq438 => (intro W hSw; (try dsimp only at hSw); go_simp; try with_reducible rfl)
                          case' restq438 => try simp only [Act.put, List.setIfInBounds_toArray, List.set_cons_zero, List.set_cons_succ]
                          refine wpAnyH_take (i := 38) (oi := ⟨some 15, _, _, _, _, _⟩) (v := ?vq439) rfl (by kernel_rfl) (by kernel_rfl) (by kernel_rfl) (fun _ _ _ h => h) (Or.inl ⟨by kernel_rfl, ?hyq439⟩) (by assumption) ?restq439
                          case hyq439 => (intro W hSw; (try dsimp only at hSw); go_simp; try with_reducible rfl)
                          case' restq439 => try simp only [Act.put, List.setIfInBounds_toArray, List.set_cons_zero, List.set_cons_succ]
                          refine wpAnyH_done (by kernel_rfl) ?_ _
                          go_wp2_with fail
                          go_meet
                          exact ⟨by rw [HN0.out], hS0⟩
              obtain ⟨rfl, kx⟩ := hcut
              generalize wc = wx at *
              have HKx := Lib.hid kx
              have HPx := Lib.hid (HP.out wx kx)
              clear kx
              generalize hqb : decide (px = x ∨ px = fx ∨ py = y ∨ py = fy) = eb
              have HEB := Lib.hid hqb
              clear hqb
              obtain ⟨m1, hln, hm1⟩ : ∃ m1 : Nat, (m : Int) - 1 = (m1 : Int) ∧ m - 1 = m1 := ⟨m - 1, by omega, rfl⟩
              have hi0 : (0 : Int) ≤ (m1 : Int) := by omega
              have hi1 : (m1 : Int) < (m : Int) := by omega
              have hi2 : (0 : Int) < (m : Int) := by omega
              have hi3 : ¬ m1 = 0 := by omega
              have hi5 : 0 < m := by omega
              have hi4 : ¬ (m1 : Int) = 0 := by omega
              have hmw : IntKind.i64.wrap (m1 : Int) = (m1 : Int) := IntWalk.i64_in _ (by omega)
              rw [hm1] at HM5
              by_cases hend : j = 0 ∨ j = m1
              rotate_left
              · have hd0 : ¬ ((j : Int) = 0) := by omega
                have hd1 : ¬ ((j : Int) = (m1 : Int)) := by omega
                have hd2 : ¬ j = 0 := by omega
                have hd3 : ¬ j = m1 := by omega
                have he0 : decide ((j : Int) = 0) = false := decide_eq_false hd0
                have he1 : decide ((j : Int) = (m1 : Int)) = false := decide_eq_false hd1
                have he2 : ((j : Int) == 0) = false := by simpa using hd0
                have he3 : ((j : Int) == (m1 : Int)) = false := by simpa using hd1
                clear HPx hend
                as_aux_lemma =>
                  go_upto_region 23 with fail
                  have hS0 : (fun W' : World => Below wz.heap.size wz W') wx.drew := HKx.out.drew
                  refine wp_region_held_drew (S := (fun W' : World => Below wz.heap.size wz W')) (by kernel_rfl) hS0 (fun hHeld => ?_)
                  clear hHeld
                  generalize wx.drew = wy at *
                  refine wpAnyH_take (i := 0) (oi := ⟨some 145, _, _, _, _, _⟩) (v := ?vz11) rfl (by kernel_rfl) (by kernel_rfl) (by kernel_rfl) (fun _ _ _ h => h) (Or.inl ⟨by kernel_rfl, ?hyz11⟩) (by assumption) ?restz11
                  case hyz11 => (intro W hSw; (try dsimp only at hSw); go_simp; try with_reducible rfl)
                  case' restz11 => try simp only [Act.put, List.setIfInBounds_toArray, List.set_cons_zero, List.set_cons_succ]
                  refine wpAnyH_take (i := 1) (oi := ⟨some 146, _, _, _, _, _⟩) (v := ?vz12) rfl (by kernel_rfl) (by kernel_rfl) (by kernel_rfl) (fun _ _ _ h => h) (Or.inl ⟨by kernel_rfl, ?hyz12⟩) (by assumption) ?restz12
                  case hyz12 => (intro W hSw; (try dsimp only at hSw); go_simp; try with_reducible rfl)
                  case' restz12 => try simp only [Act.put, List.setIfInBounds_toArray, List.set_cons_zero, List.set_cons_succ]
                  refine wpAnyH_take (i := 2) (oi := ⟨some 147, _, _, _, _, _⟩) (v := ?vz13) rfl (by kernel_rfl) (by kernel_rfl) (by kernel_rfl) (fun _ _ _ h => h) (Or.inl ⟨by kernel_rfl, ?hyz13⟩) (by assumption) ?restz13
                  case hyz13 => (intro W hSw; (try dsimp only at hSw); go_simp; try with_reducible rfl)
                  case' restz13 => try simp only [Act.put, List.setIfInBounds_toArray, List.set_cons_zero, List.set_cons_succ]
                  refine wpAnyH_take (i := 3) (oi := ⟨some 148, _, _, _, _, _⟩) (v := ?vz14) rfl (by kernel_rfl) (by kernel_rfl) (by kernel_rfl) (fun _ _ _ h => h) (Or.inl ⟨by kernel_rfl, ?hyz14⟩) (by assumption) ?restz14
                  case hyz14 => (intro W hSw; (try dsimp only at hSw); go_simp; try with_reducible rfl)
                  case' restz14 => try simp only [Act.put, List.setIfInBounds_toArray, List.set_cons_zero, List.set_cons_succ]
                  refine wpAnyH_take (i := 4) (oi := ⟨some 149, _, _, _, _, _⟩) (v := ?vz15) rfl (by kernel_rfl) (by kernel_rfl) (by kernel_rfl) (fun _ _ _ h => h) (Or.inl ⟨by kernel_rfl, ?hyz15⟩) (by assumption) ?restz15
                  case hyz15 => (intro W hSw; (try dsimp only at hSw); go_simp; try with_reducible rfl)
                  case' restz15 => try simp only [Act.put, List.setIfInBounds_toArray, List.set_cons_zero, List.set_cons_succ]
                  refine wpAnyH_take (i := 5) (oi := ⟨some 150, _, _, _, _, _⟩) (v := ?vz16) rfl (by kernel_rfl) (by kernel_rfl) (by kernel_rfl) (fun _ _ _ h => h) (Or.inl ⟨by kernel_rfl, ?hyz16⟩) (by assumption) ?restz16
                  case hyz16 => (intro W hSw; (try dsimp only at hSw); go_simp; try with_reducible rfl)
                  case' restz16 => try simp only [Act.put, List.setIfInBounds_toArray, List.set_cons_zero, List.set_cons_succ]
                  refine wpAnyH_take (i := 6) (oi := ⟨some 151, _, _, _, _, _⟩) (v := ?vz17) rfl (by kernel_rfl) (by kernel_rfl) (by kernel_rfl) (fun _ _ _ h => h) (Or.inl ⟨by kernel_rfl, ?hyz17⟩) (by assumption) ?restz17
                  case hyz17 => (intro W hSw; (try dsimp only at hSw); go_simp; try with_reducible rfl)
                  case' restz17 => try simp only [Act.put, List.setIfInBounds_toArray, List.set_cons_zero, List.set_cons_succ]
                  refine wpAnyH_take (i := 7) (oi := ⟨some 152, _, _, _, _, _⟩) (v := ?vz18) rfl (by kernel_rfl) (by kernel_rfl) (by kernel_rfl) (fun _ _ _ h => h) (Or.inl ⟨by kernel_rfl, ?hyz18⟩) (by assumption) ?restz18
                  case hyz18 => (intro W hSw; (try dsimp only at hSw); go_simp; try with_reducible rfl)
                  case' restz18 => try simp only [Act.put, List.setIfInBounds_toArray, List.set_cons_zero, List.set_cons_succ]
                  refine wpAnyH_take (i := 8) (oi := ⟨some 153, _, _, _, _, _⟩) (v := ?vz19) rfl (by kernel_rfl) (by kernel_rfl) (by kernel_rfl) (fun _ _ _ h => h) (Or.inl ⟨by kernel_rfl, ?hyz19⟩) (by assumption) ?restz19
                  case hyz19 => (intro W hSw; (try dsimp only at hSw); go_simp; try with_reducible rfl)
                  case' restz19 => try simp only [Act.put, List.setIfInBounds_toArray, List.set_cons_zero, List.set_cons_succ]
                  refine wpAnyH_take (i := 9) (oi := ⟨some 154, _, _, _, _, _⟩) (v := ?vz110) rfl (by kernel_rfl) (by kernel_rfl) (by kernel_rfl) (fun _ _ _ h => h) (Or.inl ⟨by kernel_rfl, ?hyz110⟩) (by assumption) ?restz110
                  case hyz110 => (intro W hSw; (try dsimp only at hSw); go_simp; try with_reducible rfl)
                  case' restz110 => try simp only [Act.put, List.setIfInBounds_toArray, List.set_cons_zero, List.set_cons_succ]
                  refine wpAnyH_take (i := 10) (oi := ⟨some 155, _, _, _, _, _⟩) (v := ?vz111) rfl (by kernel_rfl) (by kernel_rfl) (by kernel_rfl) (fun _ _ _ h => h) (Or.inl ⟨by kernel_rfl, ?hyz111⟩) (by assumption) ?restz111
                  case hyz111 => (intro W hSw; (try dsimp only at hSw); go_simp; try with_reducible rfl)
                  case' restz111 => try simp only [Act.put, List.setIfInBounds_toArray, List.set_cons_zero, List.set_cons_succ]
                  refine wpAnyH_take (i := 11) (oi := ⟨some 156, _, _, _, _, _⟩) (v := ?vz112) rfl (by kernel_rfl) (by kernel_rfl) (by kernel_rfl) (fun _ _ _ h => h) (Or.inl ⟨by kernel_rfl, ?hyz112⟩) (by assumption) ?restz112
                  case hyz112 => (intro W hSw; (try dsimp only at hSw); go_simp; try with_reducible rfl)
                  case' restz112 => try simp only [Act.put, List.setIfInBounds_toArray, List.set_cons_zero, List.set_cons_succ]
                  refine wpAnyH_take (i := 12) (oi := ⟨some 157, _, _, _, _, _⟩) (v := ?vz113) rfl (by kernel_rfl) (by kernel_rfl) (by kernel_rfl) (fun _ _ _ h => h) (Or.inl ⟨by kernel_rfl, ?hyz113⟩) (by assumption) ?restz113
                  case hyz113 => (intro W hSw; (try dsimp only at hSw); go_simp; try with_reducible rfl)
                  case' restz113 => try simp only [Act.put, List.setIfInBounds_toArray, List.set_cons_zero, List.set_cons_succ]
                  refine wpAnyH_take (i := 13) (oi := ⟨some 158, _, _, _, _, _⟩) (v := undef) rfl (by kernel_rfl) (by kernel_rfl) (by kernel_rfl) (fun _ _ _ h => h) (Or.inr ⟨by kernel_rfl, rfl⟩) (by assumption) ?restz114
                  case' restz114 => try simp only [Act.put, List.setIfInBounds_toArray, List.set_cons_zero, List.set_cons_succ]
                  refine wpAnyH_take (i := 14) (oi := ⟨some 159, _, _, _, _, _⟩) (v := undef) rfl (by kernel_rfl) (by kernel_rfl) (by kernel_rfl) (fun _ _ _ h => h) (Or.inr ⟨by kernel_rfl, rfl⟩) (by assumption) ?restz115
                  case' restz115 => try simp only [Act.put, List.setIfInBounds_toArray, List.set_cons_zero, List.set_cons_succ]
                  refine wpAnyH_take (i := 15) (oi := ⟨some 160, _, _, _, _, _⟩) (v := undef) rfl (by kernel_rfl) (by kernel_rfl) (by kernel_rfl) (fun _ _ _ h => h) (Or.inr ⟨by kernel_rfl, rfl⟩) (by assumption) ?restz116
                  case' restz116 => try simp only [Act.put, List.setIfInBounds_toArray, List.set_cons_zero, List.set_cons_succ]
                  refine wpAnyH_take (i := 16) (oi := ⟨some 161, _, _, _, _, _⟩) (v := undef) rfl (by kernel_rfl) (by kernel_rfl) (by kernel_rfl) (fun _ _ _ h => h) (Or.inr ⟨by kernel_rfl, rfl⟩) (by assumption) ?restz117
                  case' restz117 => try simp only [Act.put, List.setIfInBounds_toArray, List.set_cons_zero, List.set_cons_succ]
                  refine wpAnyH_take (i := 17) (oi := ⟨some 162, _, _, _, _, _⟩) (v := undef) rfl (by kernel_rfl) (by kernel_rfl) (by kernel_rfl) (fun _ _ _ h => h) (Or.inr ⟨by kernel_rfl, rfl⟩) (by assumption) ?restz118
                  case' restz118 => try simp only [Act.put, List.setIfInBounds_toArray, List.set_cons_zero, List.set_cons_succ]
                  refine wpAnyH_take (i := 18) (oi := ⟨some 163, _, _, _, _, _⟩) (v := undef) rfl (by kernel_rfl) (by kernel_rfl) (by kernel_rfl) (fun _ _ _ h => h) (Or.inr ⟨by kernel_rfl, rfl⟩) (by assumption) ?restz119
                  case' restz119 => try simp only [Act.put, List.setIfInBounds_toArray, List.set_cons_zero, List.set_cons_succ]
                  refine wpAnyH_take (i := 19) (oi := ⟨some 164, _, _, _, _, _⟩) (v := undef) rfl (by kernel_rfl) (by kernel_rfl) (by kernel_rfl) (fun _ _ _ h => h) (Or.inr ⟨by kernel_rfl, rfl⟩) (by assumption) ?restz120
                  case' restz120 => try simp only [Act.put, List.setIfInBounds_toArray, List.set_cons_zero, List.set_cons_succ]
                  refine wpAnyH_take (i := 20) (oi := ⟨some 165, _, _, _, _, _⟩) (v := undef) rfl (by kernel_rfl) (by kernel_rfl) (by kernel_rfl) (fun _ _ _ h => h) (Or.inr ⟨by kernel_rfl, rfl⟩) (by assumption) ?restz121
                  case' restz121 => try simp only [Act.put, List.setIfInBounds_toArray, List.set_cons_zero, List.set_cons_succ]
                  refine wpAnyH_take (i := 21) (oi := ⟨some 166, _, _, _, _, _⟩) (v := undef) rfl (by kernel_rfl) (by kernel_rfl) (by kernel_rfl) (fun _ _ _ h => h) (Or.inr ⟨by kernel_rfl, rfl⟩) (by assumption) ?restz122
                  case' restz122 => try simp only [Act.put, List.setIfInBounds_toArray, List.set_cons_zero, List.set_cons_succ]
                  refine wpAnyH_take (i := 22) (oi := ⟨some 167, _, _, _, _, _⟩) (v := undef) rfl (by kernel_rfl) (by kernel_rfl) (by kernel_rfl) (fun _ _ _ h => h) (Or.inr ⟨by kernel_rfl, rfl⟩) (by assumption) ?restz123
                  case' restz123 => try simp only [Act.put, List.setIfInBounds_toArray, List.set_cons_zero, List.set_cons_succ]
                  refine wpAnyH_take (i := 23) (oi := ⟨some 168, _, _, _, _, _⟩) (v := ?vz124) rfl (by kernel_rfl) (by kernel_rfl) (by kernel_rfl) (fun _ _ _ h => h) (Or.inl ⟨by kernel_rfl, ?hyz124⟩) (by assumption) ?restz124
                  case hyz124 => (intro W hSw; (try dsimp only at hSw); go_simp; try with_reducible rfl)
                  case' restz124 => try simp only [Act.put, List.setIfInBounds_toArray, List.set_cons_zero, List.set_cons_succ]
                  refine wpAnyH_take (i := 24) (oi := ⟨some 169, _, _, _, _, _⟩) (v := ?vz125) rfl (by kernel_rfl) (by kernel_rfl) (by kernel_rfl) (fun _ _ _ h => h) (Or.inl ⟨by kernel_rfl, ?hyz125⟩) (by assumption) ?restz125
                  case hyz125 => (intro W hSw; (try dsimp only at hSw); go_simp; try with_reducible rfl)
                  case' restz125 => try simp only [Act.put, List.setIfInBounds_toArray, List.set_cons_zero, List.set_cons_succ]
                  refine wpAnyH_take (i := 25) (oi := ⟨some 170, _, _, _, _, _⟩) (v := undef) rfl (by kernel_rfl) (by kernel_rfl) (by kernel_rfl) (fun _ _ _ h => h) (Or.inr ⟨by kernel_rfl, rfl⟩) (by assumption) ?restz126
                  case' restz126 => try simp only [Act.put, List.setIfInBounds_toArray, List.set_cons_zero, List.set_cons_succ]
                  refine wpAnyH_take (i := 26) (oi := ⟨some 171, _, _, _, _, _⟩) (v := undef) rfl (by kernel_rfl) (by kernel_rfl) (by kernel_rfl) (fun _ _ _ h => h) (Or.inr ⟨by kernel_rfl, rfl⟩) (by assumption) ?restz127
                  case' restz127 => try simp only [Act.put, List.setIfInBounds_toArray, List.set_cons_zero, List.set_cons_succ]
                  refine wpAnyH_take (i := 27) (oi := ⟨some 172, _, _, _, _, _⟩) (v := ?vz128) rfl (by kernel_rfl) (by kernel_rfl) (by kernel_rfl) (fun _ _ _ h => h) (Or.inl ⟨by kernel_rfl, ?hyz128⟩) (by assumption) ?restz128
                  case hyz128 => (intro W hSw; (try dsimp only at hSw); go_simp; try with_reducible rfl)
                  case' restz128 => try simp only [Act.put, List.setIfInBounds_toArray, List.set_cons_zero, List.set_cons_succ]
                  refine wpAnyH_take (i := 28) (oi := ⟨some 173, _, _, _, _, _⟩) (v := ?vz129) rfl (by kernel_rfl) (by kernel_rfl) (by kernel_rfl) (fun _ _ _ h => h) (Or.inl ⟨by kernel_rfl, ?hyz129⟩) (by assumption) ?restz129
                  case hyz129 => (intro W hSw; (try dsimp only at hSw); go_simp; try with_reducible rfl)
                  case' restz129 => try simp only [Act.put, List.setIfInBounds_toArray, List.set_cons_zero, List.set_cons_succ]
                  refine wpAnyH_done (by kernel_rfl) ?_ _
                  go_wp2
                  go_roundw
                  case rel => exact ⟨j + 1, by omega, by go_num, hS0⟩
                  case measure => simp [intOf]; omega
              have HZ0 := Lib.hid fun (W' : World) (hb : Below wz.heap.size wz W') => Rd.cells0 (HP.out W' hb) (k := 0) (by rw [HM.out]; omega)
              have HZ1 := Lib.hid fun (W' : World) (hb : Below wz.heap.size wz W') => Rd.cells0 (HP.out W' hb) (k := m1) (by rw [HM.out]; omega)
              have HED := Lib.hid (show pts[0]! = pts[m1]! ∨ eb = true from by
                rw [← HEB.out]
                rcases HM5.out with h | ⟨h1, h2⟩
                · exact .inl h
                · right
                  rcases hend with e | e
                  · rw [← e, HPP.out] at h1; exact decide_eq_true h1
                  · rw [← e, HPP.out] at h2; exact decide_eq_true h2)
              have HNQ := Lib.hid Try.neq23
              have hgd := Try.guard23
              obtain ⟨⟨f1, f2⟩, hf1⟩ : ∃ z, pts[0]! = z := ⟨_, rfl⟩
              obtain ⟨⟨e1, e2⟩, he1⟩ : ∃ z, pts[m1]! = z := ⟨_, rfl⟩
              rw [hf1] at HZ0 HED
              rw [he1] at HZ1 HED
              dsimp only at HZ0 HZ1
              rw [Nat.zero_mul] at HZ0
              clear hf1 he1 HPx
              by_cases hd0 : j = 0
              · subst hd0
                by_cases hpe : (f1, f2) = (e1, e2)
                · injection hpe with q1 q2
                  subst q1 q2
                  as_aux_lemma =>
                    go_upto_region 23 with fail
                    have hS0 : (fun W' : World => Below wz.heap.size wz W') wx.drew := HKx.out.drew
                    refine wp_region_held_drew (S := (fun W' : World => Below wz.heap.size wz W')) (by kernel_rfl) hS0 (fun hHeld => ?_)
                    clear hHeld
                    generalize wx.drew = wy at *
                    refine wpAnyH_take (i := 0) (oi := ⟨some 145, _, _, _, _, _⟩) (v := ?vz21) rfl (by kernel_rfl) (by kernel_rfl) (by kernel_rfl) (fun _ _ _ h => h) (Or.inl ⟨by kernel_rfl, ?hyz21⟩) (by assumption) ?restz21
                    case hyz21 => (intro W hSw; (try dsimp only at hSw); go_simp; try with_reducible rfl)
                    case' restz21 => try simp only [Act.put, List.setIfInBounds_toArray, List.set_cons_zero, List.set_cons_succ]
                    refine wpAnyH_take (i := 1) (oi := ⟨some 146, _, _, _, _, _⟩) (v := ?vz22) rfl (by kernel_rfl) (by kernel_rfl) (by kernel_rfl) (fun _ _ _ h => h) (Or.inl ⟨by kernel_rfl, ?hyz22⟩) (by assumption) ?restz22
                    case hyz22 => (intro W hSw; (try dsimp only at hSw); go_simp; try with_reducible rfl)
                    case' restz22 => try simp only [Act.put, List.setIfInBounds_toArray, List.set_cons_zero, List.set_cons_succ]
                    refine wpAnyH_take (i := 2) (oi := ⟨some 147, _, _, _, _, _⟩) (v := ?vz23) rfl (by kernel_rfl) (by kernel_rfl) (by kernel_rfl) (fun _ _ _ h => h) (Or.inl ⟨by kernel_rfl, ?hyz23⟩) (by assumption) ?restz23
                    case hyz23 => (intro W hSw; (try dsimp only at hSw); go_simp; try with_reducible rfl)
                    case' restz23 => try simp only [Act.put, List.setIfInBounds_toArray, List.set_cons_zero, List.set_cons_succ]
                    refine wpAnyH_take (i := 3) (oi := ⟨some 148, _, _, _, _, _⟩) (v := ?vz24) rfl (by kernel_rfl) (by kernel_rfl) (by kernel_rfl) (fun _ _ _ h => h) (Or.inl ⟨by kernel_rfl, ?hyz24⟩) (by assumption) ?restz24
                    case hyz24 => (intro W hSw; (try dsimp only at hSw); go_simp; try with_reducible rfl)
                    case' restz24 => try simp only [Act.put, List.setIfInBounds_toArray, List.set_cons_zero, List.set_cons_succ]
                    refine wpAnyH_take (i := 4) (oi := ⟨some 149, _, _, _, _, _⟩) (v := ?vz25) rfl (by kernel_rfl) (by kernel_rfl) (by kernel_rfl) (fun _ _ _ h => h) (Or.inl ⟨by kernel_rfl, ?hyz25⟩) (by assumption) ?restz25
                    case hyz25 => (intro W hSw; (try dsimp only at hSw); go_simp; try with_reducible rfl)
                    case' restz25 => try simp only [Act.put, List.setIfInBounds_toArray, List.set_cons_zero, List.set_cons_succ]
                    refine wpAnyH_take (i := 5) (oi := ⟨some 150, _, _, _, _, _⟩) (v := ?vz26) rfl (by kernel_rfl) (by kernel_rfl) (by kernel_rfl) (fun _ _ _ h => h) (Or.inl ⟨by kernel_rfl, ?hyz26⟩) (by assumption) ?restz26
                    case hyz26 => (intro W hSw; (try dsimp only at hSw); go_simp; try with_reducible rfl)
                    case' restz26 => try simp only [Act.put, List.setIfInBounds_toArray, List.set_cons_zero, List.set_cons_succ]
                    refine wpAnyH_take (i := 6) (oi := ⟨some 151, _, _, _, _, _⟩) (v := undef) rfl (by kernel_rfl) (by kernel_rfl) (by kernel_rfl) (fun _ _ _ h => h) (Or.inr ⟨by kernel_rfl, rfl⟩) (by assumption) ?restz27
                    case' restz27 => try simp only [Act.put, List.setIfInBounds_toArray, List.set_cons_zero, List.set_cons_succ]
                    refine wpAnyH_take (i := 7) (oi := ⟨some 152, _, _, _, _, _⟩) (v := undef) rfl (by kernel_rfl) (by kernel_rfl) (by kernel_rfl) (fun _ _ _ h => h) (Or.inr ⟨by kernel_rfl, rfl⟩) (by assumption) ?restz28
                    case' restz28 => try simp only [Act.put, List.setIfInBounds_toArray, List.set_cons_zero, List.set_cons_succ]
                    refine wpAnyH_take (i := 8) (oi := ⟨some 153, _, _, _, _, _⟩) (v := undef) rfl (by kernel_rfl) (by kernel_rfl) (by kernel_rfl) (fun _ _ _ h => h) (Or.inr ⟨by kernel_rfl, rfl⟩) (by assumption) ?restz29
                    case' restz29 => try simp only [Act.put, List.setIfInBounds_toArray, List.set_cons_zero, List.set_cons_succ]
                    refine wpAnyH_take (i := 9) (oi := ⟨some 154, _, _, _, _, _⟩) (v := undef) rfl (by kernel_rfl) (by kernel_rfl) (by kernel_rfl) (fun _ _ _ h => h) (Or.inr ⟨by kernel_rfl, rfl⟩) (by assumption) ?restz210
                    case' restz210 => try simp only [Act.put, List.setIfInBounds_toArray, List.set_cons_zero, List.set_cons_succ]
                    refine wpAnyH_take (i := 10) (oi := ⟨some 155, _, _, _, _, _⟩) (v := undef) rfl (by kernel_rfl) (by kernel_rfl) (by kernel_rfl) (fun _ _ _ h => h) (Or.inr ⟨by kernel_rfl, rfl⟩) (by assumption) ?restz211
                    case' restz211 => try simp only [Act.put, List.setIfInBounds_toArray, List.set_cons_zero, List.set_cons_succ]
                    refine wpAnyH_take (i := 11) (oi := ⟨some 156, _, _, _, _, _⟩) (v := ?vz212) rfl (by kernel_rfl) (by kernel_rfl) (by kernel_rfl) (fun _ _ _ h => h) (Or.inl ⟨by kernel_rfl, ?hyz212⟩) (by assumption) ?restz212
                    case hyz212 => (intro W hSw; (try dsimp only at hSw); go_simp; try with_reducible rfl)
                    case' restz212 => try simp only [Act.put, List.setIfInBounds_toArray, List.set_cons_zero, List.set_cons_succ]
                    refine wpAnyH_take (i := 12) (oi := ⟨some 157, _, _, _, _, _⟩) (v := ?vz213) rfl (by kernel_rfl) (by kernel_rfl) (by kernel_rfl) (fun _ _ _ h => h) (Or.inl ⟨by kernel_rfl, ?hyz213⟩) (by assumption) ?restz213
                    case hyz213 => (intro W hSw; (try dsimp only at hSw); go_simp; try with_reducible rfl)
                    case' restz213 => try simp only [Act.put, List.setIfInBounds_toArray, List.set_cons_zero, List.set_cons_succ]
                    refine wpAnyH_take (i := 13) (oi := ⟨some 158, _, _, _, _, _⟩) (v := ?vz214) rfl (by kernel_rfl) (by kernel_rfl) (by kernel_rfl) (fun _ _ _ h => h) (Or.inl ⟨by kernel_rfl, ?hyz214⟩) (by assumption) ?restz214
                    case hyz214 => (intro W hSw; (try dsimp only at hSw); go_simp; try with_reducible rfl)
                    case' restz214 => try simp only [Act.put, List.setIfInBounds_toArray, List.set_cons_zero, List.set_cons_succ]
                    refine wpAnyH_take (i := 14) (oi := ⟨some 159, _, _, _, _, _⟩) (v := ?vz215) rfl (by kernel_rfl) (by kernel_rfl) (by kernel_rfl) (fun _ _ _ h => h) (Or.inl ⟨by kernel_rfl, ?hyz215⟩) (by assumption) ?restz215
                    case hyz215 => (intro W hSw; (try dsimp only at hSw); go_simp; try with_reducible rfl)
                    case' restz215 => try simp only [Act.put, List.setIfInBounds_toArray, List.set_cons_zero, List.set_cons_succ]
                    refine wpAnyH_take (i := 15) (oi := ⟨some 160, _, _, _, _, _⟩) (v := ?vz216) rfl (by kernel_rfl) (by kernel_rfl) (by kernel_rfl) (fun _ _ _ h => h) (Or.inl ⟨by kernel_rfl, ?hyz216⟩) (by assumption) ?restz216
                    case hyz216 => (intro W hSw; obtain ⟨z1, z2⟩ := HZ0.out W hSw; obtain ⟨z3, z4⟩ := HZ1.out W hSw; clear hSw; (try dsimp only at hSw); go_simp; try with_reducible rfl)
                    case' restz216 => try simp only [Act.put, List.setIfInBounds_toArray, List.set_cons_zero, List.set_cons_succ]
                    refine wpAnyH_take (i := 16) (oi := ⟨some 161, _, _, _, _, _⟩) (v := ?vz217) rfl (by kernel_rfl) (by kernel_rfl) (by kernel_rfl) (fun _ _ _ h => h) (Or.inl ⟨by kernel_rfl, ?hyz217⟩) (by assumption) ?restz217
                    case hyz217 => (intro W hSw; (try dsimp only at hSw); go_simp; try with_reducible rfl)
                    case' restz217 => try simp only [Act.put, List.setIfInBounds_toArray, List.set_cons_zero, List.set_cons_succ]
                    refine wpAnyH_take (i := 17) (oi := ⟨some 162, _, _, _, _, _⟩) (v := ?vz218) rfl (by kernel_rfl) (by kernel_rfl) (by kernel_rfl) (fun _ _ _ h => h) (Or.inl ⟨by kernel_rfl, ?hyz218⟩) (by assumption) ?restz218
                    case hyz218 => (intro W hSw; (try dsimp only at hSw); go_simp; try with_reducible rfl)
                    case' restz218 => try simp only [Act.put, List.setIfInBounds_toArray, List.set_cons_zero, List.set_cons_succ]
                    refine wpAnyH_take (i := 18) (oi := ⟨some 163, _, _, _, _, _⟩) (v := ?vz219) rfl (by kernel_rfl) (by kernel_rfl) (by kernel_rfl) (fun _ _ _ h => h) (Or.inl ⟨by kernel_rfl, ?hyz219⟩) (by assumption) ?restz219
                    case hyz219 => (intro W hSw; (try dsimp only at hSw); go_simp; try with_reducible rfl)
                    case' restz219 => try simp only [Act.put, List.setIfInBounds_toArray, List.set_cons_zero, List.set_cons_succ]
                    refine wpAnyH_take (i := 19) (oi := ⟨some 164, _, _, _, _, _⟩) (v := ?vz220) rfl (by kernel_rfl) (by kernel_rfl) (by kernel_rfl) (fun _ _ _ h => h) (Or.inl ⟨by kernel_rfl, ?hyz220⟩) (by assumption) ?restz220
                    case hyz220 => (intro W hSw; (try dsimp only at hSw); go_simp; try with_reducible rfl)
                    case' restz220 => try simp only [Act.put, List.setIfInBounds_toArray, List.set_cons_zero, List.set_cons_succ]
                    refine wpAnyH_take (i := 20) (oi := ⟨some 165, _, _, _, _, _⟩) (v := ?vz221) rfl (by kernel_rfl) (by kernel_rfl) (by kernel_rfl) (fun _ _ _ h => h) (Or.inl ⟨by kernel_rfl, ?hyz221⟩) (by assumption) ?restz221
                    case hyz221 => (intro W hSw; (try dsimp only at hSw); go_simp; try with_reducible rfl)
                    case' restz221 => try simp only [Act.put, List.setIfInBounds_toArray, List.set_cons_zero, List.set_cons_succ]
                    refine wpAnyH_take (i := 21) (oi := ⟨some 166, _, _, _, _, _⟩) (v := ?vz222) rfl (by kernel_rfl) (by kernel_rfl) (by kernel_rfl) (fun _ _ _ h => h) (Or.inl ⟨by kernel_rfl, ?hyz222⟩) (by assumption) ?restz222
                    case hyz222 => (intro W hSw; obtain ⟨z1, z2⟩ := HZ0.out W hSw; obtain ⟨z3, z4⟩ := HZ1.out W hSw; clear hSw; (try dsimp only at hSw); go_simp; try with_reducible rfl)
                    case' restz222 => try simp only [Act.put, List.setIfInBounds_toArray, List.set_cons_zero, List.set_cons_succ]
                    refine wpAnyH_take (i := 22) (oi := ⟨some 167, _, _, _, _, _⟩) (v := ?vz223) rfl (by kernel_rfl) (by kernel_rfl) (by kernel_rfl) (fun _ _ _ h => h) (Or.inl ⟨by kernel_rfl, ?hyz223⟩) (by assumption) ?restz223
                    case hyz223 => (intro W hSw; have hnd := HNQ.out; clear hSw; (try dsimp only at hSw); go_simp; try with_reducible rfl)
                    case' restz223 => try simp only [Act.put, List.setIfInBounds_toArray, List.set_cons_zero, List.set_cons_succ]
                    refine wpAnyH_take (i := 23) (oi := ⟨some 168, _, _, _, _, _⟩) (v := ?vz224) rfl (by kernel_rfl) (by kernel_rfl) (by kernel_rfl) (fun _ _ _ h => h) (Or.inl ⟨by kernel_rfl, ?hyz224⟩) (by assumption) ?restz224
                    case hyz224 => (intro W hSw; (try dsimp only at hSw); go_simp; try with_reducible rfl)
                    case' restz224 => try simp only [Act.put, List.setIfInBounds_toArray, List.set_cons_zero, List.set_cons_succ]
                    refine wpAnyH_take (i := 24) (oi := ⟨some 169, _, _, _, _, _⟩) (v := ?vz225) rfl (by kernel_rfl) (by kernel_rfl) (by kernel_rfl) (fun _ _ _ h => h) (Or.inl ⟨by kernel_rfl, ?hyz225⟩) (by assumption) ?restz225
                    case hyz225 => (intro W hSw; (try dsimp only at hSw); go_simp; try with_reducible rfl)
                    case' restz225 => try simp only [Act.put, List.setIfInBounds_toArray, List.set_cons_zero, List.set_cons_succ]
                    refine wpAnyH_take (i := 25) (oi := ⟨some 170, _, _, _, _, _⟩) (v := undef) rfl (by kernel_rfl) (by kernel_rfl) (by kernel_rfl) (fun _ _ _ h => h) (Or.inr ⟨by kernel_rfl, rfl⟩) (by assumption) ?restz226
                    case' restz226 => try simp only [Act.put, List.setIfInBounds_toArray, List.set_cons_zero, List.set_cons_succ]
                    refine wpAnyH_take (i := 26) (oi := ⟨some 171, _, _, _, _, _⟩) (v := undef) rfl (by kernel_rfl) (by kernel_rfl) (by kernel_rfl) (fun _ _ _ h => h) (Or.inr ⟨by kernel_rfl, rfl⟩) (by assumption) ?restz227
                    case' restz227 => try simp only [Act.put, List.setIfInBounds_toArray, List.set_cons_zero, List.set_cons_succ]
                    refine wpAnyH_take (i := 27) (oi := ⟨some 172, _, _, _, _, _⟩) (v := ?vz228) rfl (by kernel_rfl) (by kernel_rfl) (by kernel_rfl) (fun _ _ _ h => h) (Or.inl ⟨by kernel_rfl, ?hyz228⟩) (by assumption) ?restz228
                    case hyz228 => (intro W hSw; (try dsimp only at hSw); go_simp; try with_reducible rfl)
                    case' restz228 => try simp only [Act.put, List.setIfInBounds_toArray, List.set_cons_zero, List.set_cons_succ]
                    refine wpAnyH_take (i := 28) (oi := ⟨some 173, _, _, _, _, _⟩) (v := ?vz229) rfl (by kernel_rfl) (by kernel_rfl) (by kernel_rfl) (fun _ _ _ h => h) (Or.inl ⟨by kernel_rfl, ?hyz229⟩) (by assumption) ?restz229
                    case hyz229 => (intro W hSw; (try dsimp only at hSw); go_simp; try with_reducible rfl)
                    case' restz229 => try simp only [Act.put, List.setIfInBounds_toArray, List.set_cons_zero, List.set_cons_succ]
                    refine wpAnyH_done (by kernel_rfl) ?_ _
                    go_wp2
                    go_roundw
                    case rel => exact ⟨1, by omega, by go_num, hS0⟩
                    case measure => simp [intOf]; omega
                · obtain rfl : eb = true := HED.out.resolve_left hpe
                  have hpd : decide ((f1, f2) = (e1, e2)) = false := decide_eq_false hpe
                  as_aux_lemma =>
                    go_upto_region 23 with fail
                    have hS0 : (fun W' : World => Below wz.heap.size wz W') wx.drew := HKx.out.drew
                    refine wp_region_held_drew (S := (fun W' : World => Below wz.heap.size wz W')) (by kernel_rfl) hS0 (fun hHeld => ?_)
                    clear hHeld
                    generalize wx.drew = wy at *
                    refine wpAnyH_take (i := 0) (oi := ⟨some 145, _, _, _, _, _⟩) (v := ?vz31) rfl (by kernel_rfl) (by kernel_rfl) (by kernel_rfl) (fun _ _ _ h => h) (Or.inl ⟨by kernel_rfl, ?hyz31⟩) (by assumption) ?restz31
                    case hyz31 => (intro W hSw; (try dsimp only at hSw); go_simp; try with_reducible rfl)
                    case' restz31 => try simp only [Act.put, List.setIfInBounds_toArray, List.set_cons_zero, List.set_cons_succ]
                    refine wpAnyH_take (i := 1) (oi := ⟨some 146, _, _, _, _, _⟩) (v := ?vz32) rfl (by kernel_rfl) (by kernel_rfl) (by kernel_rfl) (fun _ _ _ h => h) (Or.inl ⟨by kernel_rfl, ?hyz32⟩) (by assumption) ?restz32
                    case hyz32 => (intro W hSw; (try dsimp only at hSw); go_simp; try with_reducible rfl)
                    case' restz32 => try simp only [Act.put, List.setIfInBounds_toArray, List.set_cons_zero, List.set_cons_succ]
                    refine wpAnyH_take (i := 2) (oi := ⟨some 147, _, _, _, _, _⟩) (v := ?vz33) rfl (by kernel_rfl) (by kernel_rfl) (by kernel_rfl) (fun _ _ _ h => h) (Or.inl ⟨by kernel_rfl, ?hyz33⟩) (by assumption) ?restz33
                    case hyz33 => (intro W hSw; (try dsimp only at hSw); go_simp; try with_reducible rfl)
                    case' restz33 => try simp only [Act.put, List.setIfInBounds_toArray, List.set_cons_zero, List.set_cons_succ]
                    refine wpAnyH_take (i := 3) (oi := ⟨some 148, _, _, _, _, _⟩) (v := ?vz34) rfl (by kernel_rfl) (by kernel_rfl) (by kernel_rfl) (fun _ _ _ h => h) (Or.inl ⟨by kernel_rfl, ?hyz34⟩) (by assumption) ?restz34
                    case hyz34 => (intro W hSw; (try dsimp only at hSw); go_simp; try with_reducible rfl)
                    case' restz34 => try simp only [Act.put, List.setIfInBounds_toArray, List.set_cons_zero, List.set_cons_succ]
                    refine wpAnyH_take (i := 4) (oi := ⟨some 149, _, _, _, _, _⟩) (v := ?vz35) rfl (by kernel_rfl) (by kernel_rfl) (by kernel_rfl) (fun _ _ _ h => h) (Or.inl ⟨by kernel_rfl, ?hyz35⟩) (by assumption) ?restz35
                    case hyz35 => (intro W hSw; (try dsimp only at hSw); go_simp; try with_reducible rfl)
                    case' restz35 => try simp only [Act.put, List.setIfInBounds_toArray, List.set_cons_zero, List.set_cons_succ]
                    refine wpAnyH_take (i := 5) (oi := ⟨some 150, _, _, _, _, _⟩) (v := ?vz36) rfl (by kernel_rfl) (by kernel_rfl) (by kernel_rfl) (fun _ _ _ h => h) (Or.inl ⟨by kernel_rfl, ?hyz36⟩) (by assumption) ?restz36
                    case hyz36 => (intro W hSw; (try dsimp only at hSw); go_simp; try with_reducible rfl)
                    case' restz36 => try simp only [Act.put, List.setIfInBounds_toArray, List.set_cons_zero, List.set_cons_succ]
                    refine wpAnyH_take (i := 6) (oi := ⟨some 151, _, _, _, _, _⟩) (v := undef) rfl (by kernel_rfl) (by kernel_rfl) (by kernel_rfl) (fun _ _ _ h => h) (Or.inr ⟨by kernel_rfl, rfl⟩) (by assumption) ?restz37
                    case' restz37 => try simp only [Act.put, List.setIfInBounds_toArray, List.set_cons_zero, List.set_cons_succ]
                    refine wpAnyH_take (i := 7) (oi := ⟨some 152, _, _, _, _, _⟩) (v := undef) rfl (by kernel_rfl) (by kernel_rfl) (by kernel_rfl) (fun _ _ _ h => h) (Or.inr ⟨by kernel_rfl, rfl⟩) (by assumption) ?restz38
                    case' restz38 => try simp only [Act.put, List.setIfInBounds_toArray, List.set_cons_zero, List.set_cons_succ]
                    refine wpAnyH_take (i := 8) (oi := ⟨some 153, _, _, _, _, _⟩) (v := undef) rfl (by kernel_rfl) (by kernel_rfl) (by kernel_rfl) (fun _ _ _ h => h) (Or.inr ⟨by kernel_rfl, rfl⟩) (by assumption) ?restz39
                    case' restz39 => try simp only [Act.put, List.setIfInBounds_toArray, List.set_cons_zero, List.set_cons_succ]
                    refine wpAnyH_take (i := 9) (oi := ⟨some 154, _, _, _, _, _⟩) (v := undef) rfl (by kernel_rfl) (by kernel_rfl) (by kernel_rfl) (fun _ _ _ h => h) (Or.inr ⟨by kernel_rfl, rfl⟩) (by assumption) ?restz310
                    case' restz310 => try simp only [Act.put, List.setIfInBounds_toArray, List.set_cons_zero, List.set_cons_succ]
                    refine wpAnyH_take (i := 10) (oi := ⟨some 155, _, _, _, _, _⟩) (v := undef) rfl (by kernel_rfl) (by kernel_rfl) (by kernel_rfl) (fun _ _ _ h => h) (Or.inr ⟨by kernel_rfl, rfl⟩) (by assumption) ?restz311
                    case' restz311 => try simp only [Act.put, List.setIfInBounds_toArray, List.set_cons_zero, List.set_cons_succ]
                    refine wpAnyH_take (i := 11) (oi := ⟨some 156, _, _, _, _, _⟩) (v := ?vz312) rfl (by kernel_rfl) (by kernel_rfl) (by kernel_rfl) (fun _ _ _ h => h) (Or.inl ⟨by kernel_rfl, ?hyz312⟩) (by assumption) ?restz312
                    case hyz312 => (intro W hSw; (try dsimp only at hSw); go_simp; try with_reducible rfl)
                    case' restz312 => try simp only [Act.put, List.setIfInBounds_toArray, List.set_cons_zero, List.set_cons_succ]
                    refine wpAnyH_take (i := 12) (oi := ⟨some 157, _, _, _, _, _⟩) (v := ?vz313) rfl (by kernel_rfl) (by kernel_rfl) (by kernel_rfl) (fun _ _ _ h => h) (Or.inl ⟨by kernel_rfl, ?hyz313⟩) (by assumption) ?restz313
                    case hyz313 => (intro W hSw; (try dsimp only at hSw); go_simp; try with_reducible rfl)
                    case' restz313 => try simp only [Act.put, List.setIfInBounds_toArray, List.set_cons_zero, List.set_cons_succ]
                    refine wpAnyH_take (i := 13) (oi := ⟨some 158, _, _, _, _, _⟩) (v := ?vz314) rfl (by kernel_rfl) (by kernel_rfl) (by kernel_rfl) (fun _ _ _ h => h) (Or.inl ⟨by kernel_rfl, ?hyz314⟩) (by assumption) ?restz314
                    case hyz314 => (intro W hSw; (try dsimp only at hSw); go_simp; try with_reducible rfl)
                    case' restz314 => try simp only [Act.put, List.setIfInBounds_toArray, List.set_cons_zero, List.set_cons_succ]
                    refine wpAnyH_take (i := 14) (oi := ⟨some 159, _, _, _, _, _⟩) (v := ?vz315) rfl (by kernel_rfl) (by kernel_rfl) (by kernel_rfl) (fun _ _ _ h => h) (Or.inl ⟨by kernel_rfl, ?hyz315⟩) (by assumption) ?restz315
                    case hyz315 => (intro W hSw; (try dsimp only at hSw); go_simp; try with_reducible rfl)
                    case' restz315 => try simp only [Act.put, List.setIfInBounds_toArray, List.set_cons_zero, List.set_cons_succ]
                    refine wpAnyH_take (i := 15) (oi := ⟨some 160, _, _, _, _, _⟩) (v := ?vz316) rfl (by kernel_rfl) (by kernel_rfl) (by kernel_rfl) (fun _ _ _ h => h) (Or.inl ⟨by kernel_rfl, ?hyz316⟩) (by assumption) ?restz316
                    case hyz316 => (intro W hSw; obtain ⟨z1, z2⟩ := HZ0.out W hSw; obtain ⟨z3, z4⟩ := HZ1.out W hSw; clear hSw; (try dsimp only at hSw); go_simp; try with_reducible rfl)
                    case' restz316 => try simp only [Act.put, List.setIfInBounds_toArray, List.set_cons_zero, List.set_cons_succ]
                    refine wpAnyH_take (i := 16) (oi := ⟨some 161, _, _, _, _, _⟩) (v := ?vz317) rfl (by kernel_rfl) (by kernel_rfl) (by kernel_rfl) (fun _ _ _ h => h) (Or.inl ⟨by kernel_rfl, ?hyz317⟩) (by assumption) ?restz317
                    case hyz317 => (intro W hSw; (try dsimp only at hSw); go_simp; try with_reducible rfl)
                    case' restz317 => try simp only [Act.put, List.setIfInBounds_toArray, List.set_cons_zero, List.set_cons_succ]
                    refine wpAnyH_take (i := 17) (oi := ⟨some 162, _, _, _, _, _⟩) (v := ?vz318) rfl (by kernel_rfl) (by kernel_rfl) (by kernel_rfl) (fun _ _ _ h => h) (Or.inl ⟨by kernel_rfl, ?hyz318⟩) (by assumption) ?restz318
                    case hyz318 => (intro W hSw; (try dsimp only at hSw); go_simp; try with_reducible rfl)
                    case' restz318 => try simp only [Act.put, List.setIfInBounds_toArray, List.set_cons_zero, List.set_cons_succ]
                    refine wpAnyH_take (i := 18) (oi := ⟨some 163, _, _, _, _, _⟩) (v := ?vz319) rfl (by kernel_rfl) (by kernel_rfl) (by kernel_rfl) (fun _ _ _ h => h) (Or.inl ⟨by kernel_rfl, ?hyz319⟩) (by assumption) ?restz319
                    case hyz319 => (intro W hSw; (try dsimp only at hSw); go_simp; try with_reducible rfl)
                    case' restz319 => try simp only [Act.put, List.setIfInBounds_toArray, List.set_cons_zero, List.set_cons_succ]
                    refine wpAnyH_take (i := 19) (oi := ⟨some 164, _, _, _, _, _⟩) (v := ?vz320) rfl (by kernel_rfl) (by kernel_rfl) (by kernel_rfl) (fun _ _ _ h => h) (Or.inl ⟨by kernel_rfl, ?hyz320⟩) (by assumption) ?restz320
                    case hyz320 => (intro W hSw; (try dsimp only at hSw); go_simp; try with_reducible rfl)
                    case' restz320 => try simp only [Act.put, List.setIfInBounds_toArray, List.set_cons_zero, List.set_cons_succ]
                    refine wpAnyH_take (i := 20) (oi := ⟨some 165, _, _, _, _, _⟩) (v := ?vz321) rfl (by kernel_rfl) (by kernel_rfl) (by kernel_rfl) (fun _ _ _ h => h) (Or.inl ⟨by kernel_rfl, ?hyz321⟩) (by assumption) ?restz321
                    case hyz321 => (intro W hSw; (try dsimp only at hSw); go_simp; try with_reducible rfl)
                    case' restz321 => try simp only [Act.put, List.setIfInBounds_toArray, List.set_cons_zero, List.set_cons_succ]
                    refine wpAnyH_take (i := 21) (oi := ⟨some 166, _, _, _, _, _⟩) (v := ?vz322) rfl (by kernel_rfl) (by kernel_rfl) (by kernel_rfl) (fun _ _ _ h => h) (Or.inl ⟨by kernel_rfl, ?hyz322⟩) (by assumption) ?restz322
                    case hyz322 => (intro W hSw; obtain ⟨z1, z2⟩ := HZ0.out W hSw; obtain ⟨z3, z4⟩ := HZ1.out W hSw; clear hSw; (try dsimp only at hSw); go_simp; try with_reducible rfl)
                    case' restz322 => try simp only [Act.put, List.setIfInBounds_toArray, List.set_cons_zero, List.set_cons_succ]
                    refine wpAnyH_take (i := 22) (oi := ⟨some 167, _, _, _, _, _⟩) (v := ?vz323) rfl (by kernel_rfl) (by kernel_rfl) (by kernel_rfl) (fun _ _ _ h => h) (Or.inl ⟨by kernel_rfl, ?hyz323⟩) (by assumption) ?restz323
                    case hyz323 => (intro W hSw; have hnd := HNQ.out; clear hSw; (try dsimp only at hSw); go_simp; try with_reducible rfl)
                    case' restz323 => try simp only [Act.put, List.setIfInBounds_toArray, List.set_cons_zero, List.set_cons_succ]
                    refine wpAnyH_take (i := 23) (oi := ⟨some 168, _, _, _, _, _⟩) (v := ?vz324) rfl (by kernel_rfl) (by kernel_rfl) (by kernel_rfl) (fun _ _ _ h => h) (Or.inl ⟨by kernel_rfl, ?hyz324⟩) (by assumption) ?restz324
                    case hyz324 => (intro W hSw; (try dsimp only at hSw); go_simp; try with_reducible rfl)
                    case' restz324 => try simp only [Act.put, List.setIfInBounds_toArray, List.set_cons_zero, List.set_cons_succ]
                    refine wpAnyH_take (i := 24) (oi := ⟨some 169, _, _, _, _, _⟩) (v := ?vz325) rfl (by kernel_rfl) (by kernel_rfl) (by kernel_rfl) (fun _ _ _ h => h) (Or.inl ⟨by kernel_rfl, ?hyz325⟩) (by assumption) ?restz325
                    case hyz325 => (intro W hSw; (try dsimp only at hSw); go_simp; try with_reducible rfl)
                    case' restz325 => try simp only [Act.put, List.setIfInBounds_toArray, List.set_cons_zero, List.set_cons_succ]
                    refine wpAnyH_take (i := 25) (oi := ⟨some 170, _, _, _, _, _⟩) (v := ?vz326) rfl (by kernel_rfl) (by kernel_rfl) (by kernel_rfl) (fun _ _ _ h => h) (Or.inl ⟨by kernel_rfl, ?hyz326⟩) (by assumption) ?restz326
                    case hyz326 => (intro W hSw; (try dsimp only at hSw); go_simp; try with_reducible rfl)
                    case' restz326 => try simp only [Act.put, List.setIfInBounds_toArray, List.set_cons_zero, List.set_cons_succ]
                    refine wpAnyH_take (i := 26) (oi := ⟨some 171, _, _, _, _, _⟩) (v := ?vz327) rfl (by kernel_rfl) (by kernel_rfl) (by kernel_rfl) (fun _ _ _ h => h) (Or.inl ⟨by kernel_rfl, ?hyz327⟩) (by assumption) ?restz327
                    case hyz327 => (intro W hSw; (try dsimp only at hSw); go_simp; try with_reducible rfl)
                    case' restz327 => try simp only [Act.put, List.setIfInBounds_toArray, List.set_cons_zero, List.set_cons_succ]
                    refine wpAnyH_take (i := 27) (oi := ⟨some 172, _, _, _, _, _⟩) (v := ?vz328) rfl (by kernel_rfl) (by kernel_rfl) (by kernel_rfl) (fun _ _ _ h => h) (Or.inl ⟨by kernel_rfl, ?hyz328⟩) (by assumption) ?restz328
                    case hyz328 => (intro W hSw; (try dsimp only at hSw); go_simp; try with_reducible rfl)
                    case' restz328 => try simp only [Act.put, List.setIfInBounds_toArray, List.set_cons_zero, List.set_cons_succ]
                    refine wpAnyH_take (i := 28) (oi := ⟨some 173, _, _, _, _, _⟩) (v := ?vz329) rfl (by kernel_rfl) (by kernel_rfl) (by kernel_rfl) (fun _ _ _ h => h) (Or.inl ⟨by kernel_rfl, ?hyz329⟩) (by assumption) ?restz329
                    case hyz329 => (intro W hSw; (try dsimp only at hSw); go_simp; try with_reducible rfl)
                    case' restz329 => try simp only [Act.put, List.setIfInBounds_toArray, List.set_cons_zero, List.set_cons_succ]
                    refine wpAnyH_done (by kernel_rfl) ?_ _
                    go_wp2
                    go_roundw
                    case rel => exact ⟨1, by omega, by go_num, hS0⟩
                    case measure => simp [intOf]; omega
              · obtain rfl : j = m1 := hend.resolve_left hd0
                have he0 : decide ((j : Int) = 0) = false := decide_eq_false hi4
                have he2 : ((j : Int) == 0) = false := by simpa using hi4
                by_cases hpe : (f1, f2) = (e1, e2)
                · injection hpe with q1 q2
                  subst q1 q2
                  as_aux_lemma =>
                    go_upto_region 23 with fail
                    have hS0 : (fun W' : World => Below wz.heap.size wz W') wx.drew := HKx.out.drew
                    refine wp_region_held_drew (S := (fun W' : World => Below wz.heap.size wz W')) (by kernel_rfl) hS0 (fun hHeld => ?_)
                    clear hHeld
                    generalize wx.drew = wy at *
                    refine wpAnyH_take (i := 0) (oi := ⟨some 145, _, _, _, _, _⟩) (v := ?vz41) rfl (by kernel_rfl) (by kernel_rfl) (by kernel_rfl) (fun _ _ _ h => h) (Or.inl ⟨by kernel_rfl, ?hyz41⟩) (by assumption) ?restz41
                    case hyz41 => (intro W hSw; (try dsimp only at hSw); go_simp; try with_reducible rfl)
                    case' restz41 => try simp only [Act.put, List.setIfInBounds_toArray, List.set_cons_zero, List.set_cons_succ]
                    refine wpAnyH_take (i := 1) (oi := ⟨some 146, _, _, _, _, _⟩) (v := ?vz42) rfl (by kernel_rfl) (by kernel_rfl) (by kernel_rfl) (fun _ _ _ h => h) (Or.inl ⟨by kernel_rfl, ?hyz42⟩) (by assumption) ?restz42
                    case hyz42 => (intro W hSw; (try dsimp only at hSw); go_simp; try with_reducible rfl)
                    case' restz42 => try simp only [Act.put, List.setIfInBounds_toArray, List.set_cons_zero, List.set_cons_succ]
                    refine wpAnyH_take (i := 2) (oi := ⟨some 147, _, _, _, _, _⟩) (v := ?vz43) rfl (by kernel_rfl) (by kernel_rfl) (by kernel_rfl) (fun _ _ _ h => h) (Or.inl ⟨by kernel_rfl, ?hyz43⟩) (by assumption) ?restz43
                    case hyz43 => (intro W hSw; (try dsimp only at hSw); go_simp; try with_reducible rfl)
                    case' restz43 => try simp only [Act.put, List.setIfInBounds_toArray, List.set_cons_zero, List.set_cons_succ]
                    refine wpAnyH_take (i := 3) (oi := ⟨some 148, _, _, _, _, _⟩) (v := ?vz44) rfl (by kernel_rfl) (by kernel_rfl) (by kernel_rfl) (fun _ _ _ h => h) (Or.inl ⟨by kernel_rfl, ?hyz44⟩) (by assumption) ?restz44
                    case hyz44 => (intro W hSw; (try dsimp only at hSw); go_simp; try with_reducible rfl)
                    case' restz44 => try simp only [Act.put, List.setIfInBounds_toArray, List.set_cons_zero, List.set_cons_succ]
                    refine wpAnyH_take (i := 4) (oi := ⟨some 149, _, _, _, _, _⟩) (v := ?vz45) rfl (by kernel_rfl) (by kernel_rfl) (by kernel_rfl) (fun _ _ _ h => h) (Or.inl ⟨by kernel_rfl, ?hyz45⟩) (by assumption) ?restz45
                    case hyz45 => (intro W hSw; (try dsimp only at hSw); go_simp; try with_reducible rfl)
                    case' restz45 => try simp only [Act.put, List.setIfInBounds_toArray, List.set_cons_zero, List.set_cons_succ]
                    refine wpAnyH_take (i := 5) (oi := ⟨some 150, _, _, _, _, _⟩) (v := ?vz46) rfl (by kernel_rfl) (by kernel_rfl) (by kernel_rfl) (fun _ _ _ h => h) (Or.inl ⟨by kernel_rfl, ?hyz46⟩) (by assumption) ?restz46
                    case hyz46 => (intro W hSw; (try dsimp only at hSw); go_simp; try with_reducible rfl)
                    case' restz46 => try simp only [Act.put, List.setIfInBounds_toArray, List.set_cons_zero, List.set_cons_succ]
                    refine wpAnyH_take (i := 6) (oi := ⟨some 151, _, _, _, _, _⟩) (v := ?vz47) rfl (by kernel_rfl) (by kernel_rfl) (by kernel_rfl) (fun _ _ _ h => h) (Or.inl ⟨by kernel_rfl, ?hyz47⟩) (by assumption) ?restz47
                    case hyz47 => (intro W hSw; (try dsimp only at hSw); go_simp; try with_reducible rfl)
                    case' restz47 => try simp only [Act.put, List.setIfInBounds_toArray, List.set_cons_zero, List.set_cons_succ]
                    refine wpAnyH_take (i := 7) (oi := ⟨some 152, _, _, _, _, _⟩) (v := ?vz48) rfl (by kernel_rfl) (by kernel_rfl) (by kernel_rfl) (fun _ _ _ h => h) (Or.inl ⟨by kernel_rfl, ?hyz48⟩) (by assumption) ?restz48
                    case hyz48 => (intro W hSw; (try dsimp only at hSw); go_simp; try with_reducible rfl)
                    case' restz48 => try simp only [Act.put, List.setIfInBounds_toArray, List.set_cons_zero, List.set_cons_succ]
                    refine wpAnyH_take (i := 8) (oi := ⟨some 153, _, _, _, _, _⟩) (v := ?vz49) rfl (by kernel_rfl) (by kernel_rfl) (by kernel_rfl) (fun _ _ _ h => h) (Or.inl ⟨by kernel_rfl, ?hyz49⟩) (by assumption) ?restz49
                    case hyz49 => (intro W hSw; (try dsimp only at hSw); go_simp; try with_reducible rfl)
                    case' restz49 => try simp only [Act.put, List.setIfInBounds_toArray, List.set_cons_zero, List.set_cons_succ]
                    refine wpAnyH_take (i := 9) (oi := ⟨some 154, _, _, _, _, _⟩) (v := ?vz410) rfl (by kernel_rfl) (by kernel_rfl) (by kernel_rfl) (fun _ _ _ h => h) (Or.inl ⟨by kernel_rfl, ?hyz410⟩) (by assumption) ?restz410
                    case hyz410 => (intro W hSw; (try dsimp only at hSw); go_simp; try with_reducible rfl)
                    case' restz410 => try simp only [Act.put, List.setIfInBounds_toArray, List.set_cons_zero, List.set_cons_succ]
                    refine wpAnyH_take (i := 10) (oi := ⟨some 155, _, _, _, _, _⟩) (v := ?vz411) rfl (by kernel_rfl) (by kernel_rfl) (by kernel_rfl) (fun _ _ _ h => h) (Or.inl ⟨by kernel_rfl, ?hyz411⟩) (by assumption) ?restz411
                    case hyz411 => (intro W hSw; (try dsimp only at hSw); go_simp; try with_reducible rfl)
                    case' restz411 => try simp only [Act.put, List.setIfInBounds_toArray, List.set_cons_zero, List.set_cons_succ]
                    refine wpAnyH_take (i := 11) (oi := ⟨some 156, _, _, _, _, _⟩) (v := ?vz412) rfl (by kernel_rfl) (by kernel_rfl) (by kernel_rfl) (fun _ _ _ h => h) (Or.inl ⟨by kernel_rfl, ?hyz412⟩) (by assumption) ?restz412
                    case hyz412 => (intro W hSw; (try dsimp only at hSw); go_simp; try with_reducible rfl)
                    case' restz412 => try simp only [Act.put, List.setIfInBounds_toArray, List.set_cons_zero, List.set_cons_succ]
                    refine wpAnyH_take (i := 12) (oi := ⟨some 157, _, _, _, _, _⟩) (v := ?vz413) rfl (by kernel_rfl) (by kernel_rfl) (by kernel_rfl) (fun _ _ _ h => h) (Or.inl ⟨by kernel_rfl, ?hyz413⟩) (by assumption) ?restz413
                    case hyz413 => (intro W hSw; (try dsimp only at hSw); go_simp; try with_reducible rfl)
                    case' restz413 => try simp only [Act.put, List.setIfInBounds_toArray, List.set_cons_zero, List.set_cons_succ]
                    refine wpAnyH_take (i := 13) (oi := ⟨some 158, _, _, _, _, _⟩) (v := ?vz414) rfl (by kernel_rfl) (by kernel_rfl) (by kernel_rfl) (fun _ _ _ h => h) (Or.inl ⟨by kernel_rfl, ?hyz414⟩) (by assumption) ?restz414
                    case hyz414 => (intro W hSw; (try dsimp only at hSw); go_simp; try with_reducible rfl)
                    case' restz414 => try simp only [Act.put, List.setIfInBounds_toArray, List.set_cons_zero, List.set_cons_succ]
                    refine wpAnyH_take (i := 14) (oi := ⟨some 159, _, _, _, _, _⟩) (v := ?vz415) rfl (by kernel_rfl) (by kernel_rfl) (by kernel_rfl) (fun _ _ _ h => h) (Or.inl ⟨by kernel_rfl, ?hyz415⟩) (by assumption) ?restz415
                    case hyz415 => (intro W hSw; (try dsimp only at hSw); go_simp; try with_reducible rfl)
                    case' restz415 => try simp only [Act.put, List.setIfInBounds_toArray, List.set_cons_zero, List.set_cons_succ]
                    refine wpAnyH_take (i := 15) (oi := ⟨some 160, _, _, _, _, _⟩) (v := ?vz416) rfl (by kernel_rfl) (by kernel_rfl) (by kernel_rfl) (fun _ _ _ h => h) (Or.inl ⟨by kernel_rfl, ?hyz416⟩) (by assumption) ?restz416
                    case hyz416 => (intro W hSw; obtain ⟨z1, z2⟩ := HZ0.out W hSw; obtain ⟨z3, z4⟩ := HZ1.out W hSw; clear hSw; (try dsimp only at hSw); go_simp; try with_reducible rfl)
                    case' restz416 => try simp only [Act.put, List.setIfInBounds_toArray, List.set_cons_zero, List.set_cons_succ]
                    refine wpAnyH_take (i := 16) (oi := ⟨some 161, _, _, _, _, _⟩) (v := ?vz417) rfl (by kernel_rfl) (by kernel_rfl) (by kernel_rfl) (fun _ _ _ h => h) (Or.inl ⟨by kernel_rfl, ?hyz417⟩) (by assumption) ?restz417
                    case hyz417 => (intro W hSw; (try dsimp only at hSw); go_simp; try with_reducible rfl)
                    case' restz417 => try simp only [Act.put, List.setIfInBounds_toArray, List.set_cons_zero, List.set_cons_succ]
                    refine wpAnyH_take (i := 17) (oi := ⟨some 162, _, _, _, _, _⟩) (v := ?vz418) rfl (by kernel_rfl) (by kernel_rfl) (by kernel_rfl) (fun _ _ _ h => h) (Or.inl ⟨by kernel_rfl, ?hyz418⟩) (by assumption) ?restz418
                    case hyz418 => (intro W hSw; (try dsimp only at hSw); go_simp; try with_reducible rfl)
                    case' restz418 => try simp only [Act.put, List.setIfInBounds_toArray, List.set_cons_zero, List.set_cons_succ]
                    refine wpAnyH_take (i := 18) (oi := ⟨some 163, _, _, _, _, _⟩) (v := ?vz419) rfl (by kernel_rfl) (by kernel_rfl) (by kernel_rfl) (fun _ _ _ h => h) (Or.inl ⟨by kernel_rfl, ?hyz419⟩) (by assumption) ?restz419
                    case hyz419 => (intro W hSw; (try dsimp only at hSw); go_simp; try with_reducible rfl)
                    case' restz419 => try simp only [Act.put, List.setIfInBounds_toArray, List.set_cons_zero, List.set_cons_succ]
                    refine wpAnyH_take (i := 19) (oi := ⟨some 164, _, _, _, _, _⟩) (v := ?vz420) rfl (by kernel_rfl) (by kernel_rfl) (by kernel_rfl) (fun _ _ _ h => h) (Or.inl ⟨by kernel_rfl, ?hyz420⟩) (by assumption) ?restz420
                    case hyz420 => (intro W hSw; (try dsimp only at hSw); go_simp; try with_reducible rfl)
                    case' restz420 => try simp only [Act.put, List.setIfInBounds_toArray, List.set_cons_zero, List.set_cons_succ]
                    refine wpAnyH_take (i := 20) (oi := ⟨some 165, _, _, _, _, _⟩) (v := ?vz421) rfl (by kernel_rfl) (by kernel_rfl) (by kernel_rfl) (fun _ _ _ h => h) (Or.inl ⟨by kernel_rfl, ?hyz421⟩) (by assumption) ?restz421
                    case hyz421 => (intro W hSw; (try dsimp only at hSw); go_simp; try with_reducible rfl)
                    case' restz421 => try simp only [Act.put, List.setIfInBounds_toArray, List.set_cons_zero, List.set_cons_succ]
                    refine wpAnyH_take (i := 21) (oi := ⟨some 166, _, _, _, _, _⟩) (v := ?vz422) rfl (by kernel_rfl) (by kernel_rfl) (by kernel_rfl) (fun _ _ _ h => h) (Or.inl ⟨by kernel_rfl, ?hyz422⟩) (by assumption) ?restz422
                    case hyz422 => (intro W hSw; obtain ⟨z1, z2⟩ := HZ0.out W hSw; obtain ⟨z3, z4⟩ := HZ1.out W hSw; clear hSw; (try dsimp only at hSw); go_simp; try with_reducible rfl)
                    case' restz422 => try simp only [Act.put, List.setIfInBounds_toArray, List.set_cons_zero, List.set_cons_succ]
                    refine wpAnyH_take (i := 22) (oi := ⟨some 167, _, _, _, _, _⟩) (v := ?vz423) rfl (by kernel_rfl) (by kernel_rfl) (by kernel_rfl) (fun _ _ _ h => h) (Or.inl ⟨by kernel_rfl, ?hyz423⟩) (by assumption) ?restz423
                    case hyz423 => (intro W hSw; have hnd := HNQ.out; clear hSw; (try dsimp only at hSw); go_simp; try with_reducible rfl)
                    case' restz423 => try simp only [Act.put, List.setIfInBounds_toArray, List.set_cons_zero, List.set_cons_succ]
                    refine wpAnyH_take (i := 23) (oi := ⟨some 168, _, _, _, _, _⟩) (v := ?vz424) rfl (by kernel_rfl) (by kernel_rfl) (by kernel_rfl) (fun _ _ _ h => h) (Or.inl ⟨by kernel_rfl, ?hyz424⟩) (by assumption) ?restz424
                    case hyz424 => (intro W hSw; (try dsimp only at hSw); go_simp; try with_reducible rfl)
                    case' restz424 => try simp only [Act.put, List.setIfInBounds_toArray, List.set_cons_zero, List.set_cons_succ]
                    refine wpAnyH_take (i := 24) (oi := ⟨some 169, _, _, _, _, _⟩) (v := ?vz425) rfl (by kernel_rfl) (by kernel_rfl) (by kernel_rfl) (fun _ _ _ h => h) (Or.inl ⟨by kernel_rfl, ?hyz425⟩) (by assumption) ?restz425
                    case hyz425 => (intro W hSw; (try dsimp only at hSw); go_simp; try with_reducible rfl)
                    case' restz425 => try simp only [Act.put, List.setIfInBounds_toArray, List.set_cons_zero, List.set_cons_succ]
                    refine wpAnyH_take (i := 25) (oi := ⟨some 170, _, _, _, _, _⟩) (v := undef) rfl (by kernel_rfl) (by kernel_rfl) (by kernel_rfl) (fun _ _ _ h => h) (Or.inr ⟨by kernel_rfl, rfl⟩) (by assumption) ?restz426
                    case' restz426 => try simp only [Act.put, List.setIfInBounds_toArray, List.set_cons_zero, List.set_cons_succ]
                    refine wpAnyH_take (i := 26) (oi := ⟨some 171, _, _, _, _, _⟩) (v := undef) rfl (by kernel_rfl) (by kernel_rfl) (by kernel_rfl) (fun _ _ _ h => h) (Or.inr ⟨by kernel_rfl, rfl⟩) (by assumption) ?restz427
                    case' restz427 => try simp only [Act.put, List.setIfInBounds_toArray, List.set_cons_zero, List.set_cons_succ]
                    refine wpAnyH_take (i := 27) (oi := ⟨some 172, _, _, _, _, _⟩) (v := ?vz428) rfl (by kernel_rfl) (by kernel_rfl) (by kernel_rfl) (fun _ _ _ h => h) (Or.inl ⟨by kernel_rfl, ?hyz428⟩) (by assumption) ?restz428
                    case hyz428 => (intro W hSw; (try dsimp only at hSw); go_simp; try with_reducible rfl)
                    case' restz428 => try simp only [Act.put, List.setIfInBounds_toArray, List.set_cons_zero, List.set_cons_succ]
                    refine wpAnyH_take (i := 28) (oi := ⟨some 173, _, _, _, _, _⟩) (v := ?vz429) rfl (by kernel_rfl) (by kernel_rfl) (by kernel_rfl) (fun _ _ _ h => h) (Or.inl ⟨by kernel_rfl, ?hyz429⟩) (by assumption) ?restz429
                    case hyz429 => (intro W hSw; (try dsimp only at hSw); go_simp; try with_reducible rfl)
                    case' restz429 => try simp only [Act.put, List.setIfInBounds_toArray, List.set_cons_zero, List.set_cons_succ]
                    refine wpAnyH_done (by kernel_rfl) ?_ _
                    go_wp2
                    go_roundw
                    case rel => exact ⟨j + 1, by omega, by go_num, hS0⟩
                    case measure => simp [intOf]; omega
                · obtain rfl : eb = true := HED.out.resolve_left hpe
                  have hpd : decide ((f1, f2) = (e1, e2)) = false := decide_eq_false hpe
                  as_aux_lemma =>
                    go_upto_region 23 with fail
                    have hS0 : (fun W' : World => Below wz.heap.size wz W') wx.drew := HKx.out.drew
                    refine wp_region_held_drew (S := (fun W' : World => Below wz.heap.size wz W')) (by kernel_rfl) hS0 (fun hHeld => ?_)
                    clear hHeld
                    generalize wx.drew = wy at *
                    refine wpAnyH_take (i := 0) (oi := ⟨some 145, _, _, _, _, _⟩) (v := ?vz51) rfl (by kernel_rfl) (by kernel_rfl) (by kernel_rfl) (fun _ _ _ h => h) (Or.inl ⟨by kernel_rfl, ?hyz51⟩) (by assumption) ?restz51
                    case hyz51 => (intro W hSw; (try dsimp only at hSw); go_simp; try with_reducible rfl)
                    case' restz51 => try simp only [Act.put, List.setIfInBounds_toArray, List.set_cons_zero, List.set_cons_succ]
                    refine wpAnyH_take (i := 1) (oi := ⟨some 146, _, _, _, _, _⟩) (v := ?vz52) rfl (by kernel_rfl) (by kernel_rfl) (by kernel_rfl) (fun _ _ _ h => h) (Or.inl ⟨by kernel_rfl, ?hyz52⟩) (by assumption) ?restz52
                    case hyz52 => (intro W hSw; (try dsimp only at hSw); go_simp; try with_reducible rfl)
                    case' restz52 => try simp only [Act.put, List.setIfInBounds_toArray, List.set_cons_zero, List.set_cons_succ]
                    refine wpAnyH_take (i := 2) (oi := ⟨some 147, _, _, _, _, _⟩) (v := ?vz53) rfl (by kernel_rfl) (by kernel_rfl) (by kernel_rfl) (fun _ _ _ h => h) (Or.inl ⟨by kernel_rfl, ?hyz53⟩) (by assumption) ?restz53
                    case hyz53 => (intro W hSw; (try dsimp only at hSw); go_simp; try with_reducible rfl)
                    case' restz53 => try simp only [Act.put, List.setIfInBounds_toArray, List.set_cons_zero, List.set_cons_succ]
                    refine wpAnyH_take (i := 3) (oi := ⟨some 148, _, _, _, _, _⟩) (v := ?vz54) rfl (by kernel_rfl) (by kernel_rfl) (by kernel_rfl) (fun _ _ _ h => h) (Or.inl ⟨by kernel_rfl, ?hyz54⟩) (by assumption) ?restz54
                    case hyz54 => (intro W hSw; (try dsimp only at hSw); go_simp; try with_reducible rfl)
                    case' restz54 => try simp only [Act.put, List.setIfInBounds_toArray, List.set_cons_zero, List.set_cons_succ]
                    refine wpAnyH_take (i := 4) (oi := ⟨some 149, _, _, _, _, _⟩) (v := ?vz55) rfl (by kernel_rfl) (by kernel_rfl) (by kernel_rfl) (fun _ _ _ h => h) (Or.inl ⟨by kernel_rfl, ?hyz55⟩) (by assumption) ?restz55
                    case hyz55 => (intro W hSw; (try dsimp only at hSw); go_simp; try with_reducible rfl)
                    case' restz55 => try simp only [Act.put, List.setIfInBounds_toArray, List.set_cons_zero, List.set_cons_succ]
                    refine wpAnyH_take (i := 5) (oi := ⟨some 150, _, _, _, _, _⟩) (v := ?vz56) rfl (by kernel_rfl) (by kernel_rfl) (by kernel_rfl) (fun _ _ _ h => h) (Or.inl ⟨by kernel_rfl, ?hyz56⟩) (by assumption) ?restz56
                    case hyz56 => (intro W hSw; (try dsimp only at hSw); go_simp; try with_reducible rfl)
                    case' restz56 => try simp only [Act.put, List.setIfInBounds_toArray, List.set_cons_zero, List.set_cons_succ]
                    refine wpAnyH_take (i := 6) (oi := ⟨some 151, _, _, _, _, _⟩) (v := ?vz57) rfl (by kernel_rfl) (by kernel_rfl) (by kernel_rfl) (fun _ _ _ h => h) (Or.inl ⟨by kernel_rfl, ?hyz57⟩) (by assumption) ?restz57
                    case hyz57 => (intro W hSw; (try dsimp only at hSw); go_simp; try with_reducible rfl)
                    case' restz57 => try simp only [Act.put, List.setIfInBounds_toArray, List.set_cons_zero, List.set_cons_succ]
                    refine wpAnyH_take (i := 7) (oi := ⟨some 152, _, _, _, _, _⟩) (v := ?vz58) rfl (by kernel_rfl) (by kernel_rfl) (by kernel_rfl) (fun _ _ _ h => h) (Or.inl ⟨by kernel_rfl, ?hyz58⟩) (by assumption) ?restz58
                    case hyz58 => (intro W hSw; (try dsimp only at hSw); go_simp; try with_reducible rfl)
                    case' restz58 => try simp only [Act.put, List.setIfInBounds_toArray, List.set_cons_zero, List.set_cons_succ]
                    refine wpAnyH_take (i := 8) (oi := ⟨some 153, _, _, _, _, _⟩) (v := ?vz59) rfl (by kernel_rfl) (by kernel_rfl) (by kernel_rfl) (fun _ _ _ h => h) (Or.inl ⟨by kernel_rfl, ?hyz59⟩) (by assumption) ?restz59
                    case hyz59 => (intro W hSw; (try dsimp only at hSw); go_simp; try with_reducible rfl)
                    case' restz59 => try simp only [Act.put, List.setIfInBounds_toArray, List.set_cons_zero, List.set_cons_succ]
                    refine wpAnyH_take (i := 9) (oi := ⟨some 154, _, _, _, _, _⟩) (v := ?vz510) rfl (by kernel_rfl) (by kernel_rfl) (by kernel_rfl) (fun _ _ _ h => h) (Or.inl ⟨by kernel_rfl, ?hyz510⟩) (by assumption) ?restz510
                    case hyz510 => (intro W hSw; (try dsimp only at hSw); go_simp; try with_reducible rfl)
                    case' restz510 => try simp only [Act.put, List.setIfInBounds_toArray, List.set_cons_zero, List.set_cons_succ]
                    refine wpAnyH_take (i := 10) (oi := ⟨some 155, _, _, _, _, _⟩) (v := ?vz511) rfl (by kernel_rfl) (by kernel_rfl) (by kernel_rfl) (fun _ _ _ h => h) (Or.inl ⟨by kernel_rfl, ?hyz511⟩) (by assumption) ?restz511
                    case hyz511 => (intro W hSw; (try dsimp only at hSw); go_simp; try with_reducible rfl)
                    case' restz511 => try simp only [Act.put, List.setIfInBounds_toArray, List.set_cons_zero, List.set_cons_succ]
                    refine wpAnyH_take (i := 11) (oi := ⟨some 156, _, _, _, _, _⟩) (v := ?vz512) rfl (by kernel_rfl) (by kernel_rfl) (by kernel_rfl) (fun _ _ _ h => h) (Or.inl ⟨by kernel_rfl, ?hyz512⟩) (by assumption) ?restz512
                    case hyz512 => (intro W hSw; (try dsimp only at hSw); go_simp; try with_reducible rfl)
                    case' restz512 => try simp only [Act.put, List.setIfInBounds_toArray, List.set_cons_zero, List.set_cons_succ]
                    refine wpAnyH_take (i := 12) (oi := ⟨some 157, _, _, _, _, _⟩) (v := ?vz513) rfl (by kernel_rfl) (by kernel_rfl) (by kernel_rfl) (fun _ _ _ h => h) (Or.inl ⟨by kernel_rfl, ?hyz513⟩) (by assumption) ?restz513
                    case hyz513 => (intro W hSw; (try dsimp only at hSw); go_simp; try with_reducible rfl)
                    case' restz513 => try simp only [Act.put, List.setIfInBounds_toArray, List.set_cons_zero, List.set_cons_succ]
                    refine wpAnyH_take (i := 13) (oi := ⟨some 158, _, _, _, _, _⟩) (v := ?vz514) rfl (by kernel_rfl) (by kernel_rfl) (by kernel_rfl) (fun _ _ _ h => h) (Or.inl ⟨by kernel_rfl, ?hyz514⟩) (by assumption) ?restz514
                    case hyz514 => (intro W hSw; (try dsimp only at hSw); go_simp; try with_reducible rfl)
                    case' restz514 => try simp only [Act.put, List.setIfInBounds_toArray, List.set_cons_zero, List.set_cons_succ]
                    refine wpAnyH_take (i := 14) (oi := ⟨some 159, _, _, _, _, _⟩) (v := ?vz515) rfl (by kernel_rfl) (by kernel_rfl) (by kernel_rfl) (fun _ _ _ h => h) (Or.inl ⟨by kernel_rfl, ?hyz515⟩) (by assumption) ?restz515
                    case hyz515 => (intro W hSw; (try dsimp only at hSw); go_simp; try with_reducible rfl)
                    case' restz515 => try simp only [Act.put, List.setIfInBounds_toArray, List.set_cons_zero, List.set_cons_succ]
                    refine wpAnyH_take (i := 15) (oi := ⟨some 160, _, _, _, _, _⟩) (v := ?vz516) rfl (by kernel_rfl) (by kernel_rfl) (by kernel_rfl) (fun _ _ _ h => h) (Or.inl ⟨by kernel_rfl, ?hyz516⟩) (by assumption) ?restz516
                    case hyz516 => (intro W hSw; obtain ⟨z1, z2⟩ := HZ0.out W hSw; obtain ⟨z3, z4⟩ := HZ1.out W hSw; clear hSw; (try dsimp only at hSw); go_simp; try with_reducible rfl)
                    case' restz516 => try simp only [Act.put, List.setIfInBounds_toArray, List.set_cons_zero, List.set_cons_succ]
                    refine wpAnyH_take (i := 16) (oi := ⟨some 161, _, _, _, _, _⟩) (v := ?vz517) rfl (by kernel_rfl) (by kernel_rfl) (by kernel_rfl) (fun _ _ _ h => h) (Or.inl ⟨by kernel_rfl, ?hyz517⟩) (by assumption) ?restz517
                    case hyz517 => (intro W hSw; (try dsimp only at hSw); go_simp; try with_reducible rfl)
                    case' restz517 => try simp only [Act.put, List.setIfInBounds_toArray, List.set_cons_zero, List.set_cons_succ]
                    refine wpAnyH_take (i := 17) (oi := ⟨some 162, _, _, _, _, _⟩) (v := ?vz518) rfl (by kernel_rfl) (by kernel_rfl) (by kernel_rfl) (fun _ _ _ h => h) (Or.inl ⟨by kernel_rfl, ?hyz518⟩) (by assumption) ?restz518
                    case hyz518 => (intro W hSw; (try dsimp only at hSw); go_simp; try with_reducible rfl)
                    case' restz518 => try simp only [Act.put, List.setIfInBounds_toArray, List.set_cons_zero, List.set_cons_succ]
                    refine wpAnyH_take (i := 18) (oi := ⟨some 163, _, _, _, _, _⟩) (v := ?vz519) rfl (by kernel_rfl) (by kernel_rfl) (by kernel_rfl) (fun _ _ _ h => h) (Or.inl ⟨by kernel_rfl, ?hyz519⟩) (by assumption) ?restz519
                    case hyz519 => (intro W hSw; (try dsimp only at hSw); go_simp; try with_reducible rfl)
                    case' restz519 => try simp only [Act.put, List.setIfInBounds_toArray, List.set_cons_zero, List.set_cons_succ]
                    refine wpAnyH_take (i := 19) (oi := ⟨some 164, _, _, _, _, _⟩) (v := ?vz520) rfl (by kernel_rfl) (by kernel_rfl) (by kernel_rfl) (fun _ _ _ h => h) (Or.inl ⟨by kernel_rfl, ?hyz520⟩) (by assumption) ?restz520
                    case hyz520 => (intro W hSw; (try dsimp only at hSw); go_simp; try with_reducible rfl)
                    case' restz520 => try simp only [Act.put, List.setIfInBounds_toArray, List.set_cons_zero, List.set_cons_succ]
                    refine wpAnyH_take (i := 20) (oi := ⟨some 165, _, _, _, _, _⟩) (v := ?vz521) rfl (by kernel_rfl) (by kernel_rfl) (by kernel_rfl) (fun _ _ _ h => h) (Or.inl ⟨by kernel_rfl, ?hyz521⟩) (by assumption) ?restz521
                    case hyz521 => (intro W hSw; (try dsimp only at hSw); go_simp; try with_reducible rfl)
                    case' restz521 => try simp only [Act.put, List.setIfInBounds_toArray, List.set_cons_zero, List.set_cons_succ]
                    refine wpAnyH_take (i := 21) (oi := ⟨some 166, _, _, _, _, _⟩) (v := ?vz522) rfl (by kernel_rfl) (by kernel_rfl) (by kernel_rfl) (fun _ _ _ h => h) (Or.inl ⟨by kernel_rfl, ?hyz522⟩) (by assumption) ?restz522
                    case hyz522 => (intro W hSw; obtain ⟨z1, z2⟩ := HZ0.out W hSw; obtain ⟨z3, z4⟩ := HZ1.out W hSw; clear hSw; (try dsimp only at hSw); go_simp; try with_reducible rfl)
                    case' restz522 => try simp only [Act.put, List.setIfInBounds_toArray, List.set_cons_zero, List.set_cons_succ]
                    refine wpAnyH_take (i := 22) (oi := ⟨some 167, _, _, _, _, _⟩) (v := ?vz523) rfl (by kernel_rfl) (by kernel_rfl) (by kernel_rfl) (fun _ _ _ h => h) (Or.inl ⟨by kernel_rfl, ?hyz523⟩) (by assumption) ?restz523
                    case hyz523 => (intro W hSw; have hnd := HNQ.out; clear hSw; (try dsimp only at hSw); go_simp; try with_reducible rfl)
                    case' restz523 => try simp only [Act.put, List.setIfInBounds_toArray, List.set_cons_zero, List.set_cons_succ]
                    refine wpAnyH_take (i := 23) (oi := ⟨some 168, _, _, _, _, _⟩) (v := ?vz524) rfl (by kernel_rfl) (by kernel_rfl) (by kernel_rfl) (fun _ _ _ h => h) (Or.inl ⟨by kernel_rfl, ?hyz524⟩) (by assumption) ?restz524
                    case hyz524 => (intro W hSw; (try dsimp only at hSw); go_simp; try with_reducible rfl)
                    case' restz524 => try simp only [Act.put, List.setIfInBounds_toArray, List.set_cons_zero, List.set_cons_succ]
                    refine wpAnyH_take (i := 24) (oi := ⟨some 169, _, _, _, _, _⟩) (v := ?vz525) rfl (by kernel_rfl) (by kernel_rfl) (by kernel_rfl) (fun _ _ _ h => h) (Or.inl ⟨by kernel_rfl, ?hyz525⟩) (by assumption) ?restz525
                    case hyz525 => (intro W hSw; (try dsimp only at hSw); go_simp; try with_reducible rfl)
                    case' restz525 => try simp only [Act.put, List.setIfInBounds_toArray, List.set_cons_zero, List.set_cons_succ]
                    refine wpAnyH_take (i := 25) (oi := ⟨some 170, _, _, _, _, _⟩) (v := ?vz526) rfl (by kernel_rfl) (by kernel_rfl) (by kernel_rfl) (fun _ _ _ h => h) (Or.inl ⟨by kernel_rfl, ?hyz526⟩) (by assumption) ?restz526
                    case hyz526 => (intro W hSw; (try dsimp only at hSw); go_simp; try with_reducible rfl)
                    case' restz526 => try simp only [Act.put, List.setIfInBounds_toArray, List.set_cons_zero, List.set_cons_succ]
                    refine wpAnyH_take (i := 26) (oi := ⟨some 171, _, _, _, _, _⟩) (v := ?vz527) rfl (by kernel_rfl) (by kernel_rfl) (by kernel_rfl) (fun _ _ _ h => h) (Or.inl ⟨by kernel_rfl, ?hyz527⟩) (by assumption) ?restz527
                    case hyz527 => (intro W hSw; (try dsimp only at hSw); go_simp; try with_reducible rfl)
                    case' restz527 => try simp only [Act.put, List.setIfInBounds_toArray, List.set_cons_zero, List.set_cons_succ]
                    refine wpAnyH_take (i := 27) (oi := ⟨some 172, _, _, _, _, _⟩) (v := ?vz528) rfl (by kernel_rfl) (by kernel_rfl) (by kernel_rfl) (fun _ _ _ h => h) (Or.inl ⟨by kernel_rfl, ?hyz528⟩) (by assumption) ?restz528
                    case hyz528 => (intro W hSw; (try dsimp only at hSw); go_simp; try with_reducible rfl)
                    case' restz528 => try simp only [Act.put, List.setIfInBounds_toArray, List.set_cons_zero, List.set_cons_succ]
                    refine wpAnyH_take (i := 28) (oi := ⟨some 173, _, _, _, _, _⟩) (v := ?vz529) rfl (by kernel_rfl) (by kernel_rfl) (by kernel_rfl) (fun _ _ _ h => h) (Or.inl ⟨by kernel_rfl, ?hyz529⟩) (by assumption) ?restz529
                    case hyz529 => (intro W hSw; (try dsimp only at hSw); go_simp; try with_reducible rfl)
                    case' restz529 => try simp only [Act.put, List.setIfInBounds_toArray, List.set_cons_zero, List.set_cons_succ]
                    refine wpAnyH_done (by kernel_rfl) ?_ _
                    go_wp2
                    go_roundw
                    case rel => exact ⟨j + 1, by omega, by go_num, hS0⟩
                    case measure => simp [intOf]; omega
end Go.Proofs
