/- In. -/
import Derived.Test.YtafaojmkbbhjmaaC6
set_option linter.unusedVariables false
set_option linter.unusedSimpArgs false
namespace Go.Proofs
open Go.RowKit Go.Proofs.Mp

/-- the edge from a to b counts for p -/
def crB (a b p : Pt) : Bool := decide ((a.2 ≤ p.2 ∧ p.2 < b.2 ∧ 0 < sd a b p) ∨ (b.2 ≤ p.2 ∧ p.2 < a.2 ∧ sd a b p < 0))
def parTo (l : List Pt) (p : Pt) : Nat → Bool
  | 0 => false
  | k + 1 => (parTo l p k) ^^ (crB l[k]! (edE l k) p)
def onAny (l : List Pt) (p : Pt) : Bool := (List.range l.length).any fun i => onB l[i]! (edE l i) p
def inN (l : List Pt) (p : Pt) : Int := if polyE l = 0 ∧ Vp p then (if onAny l p = true then 0 else if parTo l p l.length = true then 1 else -1) else -1
def offTo (l : List Pt) (p : Pt) (k : Nat) : Prop := ∀ i, i < k → onB l[i]! (edE l i) p = false
theorem offTo_succ {l : List Pt} {p : Pt} {k : Nat} (h : offTo l p k) (hk : onB l[k]! (edE l k) p = false) : offTo l p (k + 1) := by
  intro i hi
  rcases Nat.lt_succ_iff_lt_or_eq.1 hi with h1 | rfl
  · exact h i h1
  · exact hk
theorem onAny_no {l : List Pt} {p : Pt} (h : offTo l p l.length) : onAny l p = false := by
  unfold onAny
  rw [List.any_eq_false]
  intro i hi
  rw [h i (List.mem_range.1 hi)]
  decide
theorem onAny_yes {l : List Pt} {p : Pt} {k : Nat} (hk : k < l.length) (h : onB l[k]! (edE l k) p = true) : onAny l p = true := by
  unfold onAny
  rw [List.any_eq_true]
  exact ⟨k, List.mem_range.2 hk, h⟩

set_option maxRecDepth 100000 in
set_option maxHeartbeats 4000000 in
theorem ring_in (A : Option Addr) (c : Nat) (l : List Pt) (p : Pt) (w : World) (hmax : l.length ≤ 1000000000000) (hR : RdR w A l) :
    Calls Try.prog 20 #[.slice A l.length c, aggP p] w (RetV w (.int .i64 (inN l p))) := by
  have cP := Lib.hid fun W (hb : Below w.heap.size w W) => ring_polygon A c l W hmax (hR.below hb)
  have cV := Lib.hid fun W => ring_valid p W
  have HR0 := Lib.hid (show inN l p = if polyE l = 0 ∧ Vp p then (if onAny l p = true then 0 else if parTo l p l.length = true then 1 else -1) else -1 from rfl)
  by_cases h0 : polyE l = 0
  rotate_left
  · have HR := Lib.hid (HR0.out.trans (if_neg (fun h => h0 h.1)))
    have hz : (polyE l != 0) = true := by simp [h0]
    clear HR0 hR cV
    generalize inN l p = E at *
    generalize polyE l = z at *
    clear h0
    obtain ⟨x, y⟩ := p
    unfold aggP
    dsimp only
    go_enter Try.func20, Try.ntmps20
    go_wp2_with fail
    refine (cP.out _ (bw1 _ _)).mono ?_
    rintro e w1 ⟨rfl, hb1⟩
    have hb2 := below_lit hb1
    go_wp2
    go_ret
    exact RetV.int HR.out.symm hb2
  obtain ⟨hv, hn3, hn⟩ := polyE_zero h0
  rw [h0] at cP
  by_cases hp : Vp p
  rotate_left
  · have HR := Lib.hid (HR0.out.trans (if_neg (fun h => hp h.2)))
    rw [decide_eq_false hp] at cV
    clear HR0 hR hp h0 hv
    generalize inN l p = E at *
    obtain ⟨x, y⟩ := p
    unfold aggP at *
    dsimp only at *
    go_enter Try.func20, Try.ntmps20
    go_wp2_with fail
    refine (cP.out _ (bw1 _ _)).mono ?_
    rintro e w1 ⟨rfl, hb1⟩
    obtain ⟨k1, k2⟩ := box_at w w1 _ _ 32 (hb1.mono (by simp))
    have hb2 := below_lit hb1
    go_wp2_with fail
    refine (cV.out _).mono ?_
    rintro e w2 ⟨rfl, hb3⟩
    have hb4 := below_step hb2 hb3
    go_wp2
    go_ret
    exact RetV.int HR.out.symm hb4
  rw [decide_eq_true hp] at cV
  have HR := Lib.hid (HR0.out.trans (if_pos ⟨h0, hp⟩))
  have cE := Lib.hid fun (i : Nat) (hi : i < l.length) (W : World) (hb : Below w.heap.size w W) => ring_edge A c l i W hmax hi (hR.below hb)
  have cO := Lib.hid fun (i : Nat) (hi : i < l.length) (W : World) => geom_on l[i]! (edE l i) p W (hv i hi).nr (edE_vp hv hi).nr hp.nr
  have cS := Lib.hid fun (i : Nat) (hi : i < l.length) (W : World) => geom_Side l[i]! (edE l i) p W (hv i hi).nr (edE_vp hv hi).nr hp.nr
  have HP := Lib.hid fun k => (show parTo l p (k + 1) = ((parTo l p k) ^^ (crB l[k]! (edE l k) p)) from rfl)
  clear HR0 hR hp h0 hv
  generalize inN l p = E at *
  have hoff0 : Hid (offTo l p 0) := Lib.hid fun i hi => by omega
  have hpar0 : Hid (parTo l p 0 = false) := Lib.hid rfl
  have HON := Lib.hid fun k (hk : k < l.length) (h : onB l[k]! (edE l k) p = true) => (show E = 0 by rw [HR.out, if_pos (onAny_yes hk h)])
  have HEND := Lib.hid fun q (h : offTo l p l.length) (hq : parTo l p l.length = q) => (show E = if q = true then 1 else -1 by rw [HR.out, if_neg (by rw [onAny_no h]; decide), hq])
  have HNX := Lib.hid fun k (h : offTo l p k) (hk : onB l[k]! (edE l k) p = false) => offTo_succ h hk
  clear HR
  obtain ⟨x, y⟩ := p
  unfold aggP at *
  dsimp only at *
  go_enter Try.func20, Try.ntmps20
  go_wp2_with fail
  refine (cP.out _ (bw1 _ _)).mono ?_
  rintro e w1 ⟨rfl, hb1⟩
  have HX := Lib.hid fun (W : World) (hW : Below w1.heap.size w1 W) => box_at w W (.int .i64 x) (.int .i64 y) 32 ((hb1.trans (hW.mono hb1.size)).mono (by simp))
  have hb2 := below_lit hb1
  obtain ⟨k1, k2⟩ := HX.out _ (Below.refl _ _)
  clear hb1
  go_wp2_with fail
  refine (cV.out _).mono ?_
  rintro e w2 ⟨rfl, hb3⟩
  have hb4 := below_step hb2 hb3
  have HX2 := Lib.hid fun (W : World) (hW : Below w2.heap.size w2 W) => HX.out W (hb3.trans (hW.mono hb3.size))
  clear hb2 hb3 k1 k2 HX
  go_wp2_with fail
  go_loopw [5, 19] (fun v i wr => ∃ (k : Nat) (q : Bool), k ≤ l.length ∧ i = .int .i64 k ∧ v = .bool q ∧ Hid (parTo l (x, y) k = q) ∧ Hid (offTo l (x, y) k) ∧ Below w2.heap.size w2 wr) (fun _ i _ => l.length - (intOf i).toNat)
  case atStart => exact ⟨0, false, by omega, rfl, rfl, hpar0, hoff0, Below.refl _ _⟩
  case round =>
    obtain ⟨k, q, hk, rfl, rfl, hpar, hoff, hbw⟩ := hrel
    have hbz := hb4.trans (hbw.mono hb4.size)
    by_cases hlt : k < l.length
    rotate_left
    · obtain rfl : k = l.length := by omega
      have HE := Lib.hid (HEND.out q hoff.out hpar.out)
      cases q
      all_goals
        go_wp2
        go_ret
        exact RetV.int (by rw [HE.out]; rfl) hbz
    · go_wp2_with fail
      refine (cE.out k hlt wr hbz).mono ?_
      rintro e w3 ⟨rfl, hb3⟩
      have hbw3 := hbw.trans (hb3.mono hbw.size)
      have hbz3 := hbz.trans (hb3.mono hbz.size)
      have cOk := Lib.hid (cO.out k hlt)
      have cSk := Lib.hid (cS.out k hlt)
      have HPk := Lib.hid (HP.out k)
      have HONk := Lib.hid (HON.out k hlt)
      have HNXk := Lib.hid (HNX.out k hoff.out)
      rw [hpar.out] at HPk
      clear hb3 hbw hbz hpar hoff
      obtain ⟨⟨a1, a2⟩, hcc⟩ : ∃ p, l[k]! = p := ⟨_, rfl⟩
      obtain ⟨⟨b1, b2⟩, hdd⟩ : ∃ p, edE l k = p := ⟨_, rfl⟩
      rw [hcc, hdd]
      rw [hcc, hdd] at cOk cSk HPk HONk HNXk
      clear hcc hdd
      dsimp only at cOk cSk ⊢
      have hbA : Below w2.heap.size w2 ((w3.alloc (.cells #[.int .i64 a1, .int .i64 a2] 32)).alloc (.cells #[.int .i64 b1, .int .i64 b2] 32)) := (hbw3.alloc hbw3.size _).alloc (by have := hbw3.size; simp; omega) _
      have HA := Lib.hid (fun W hb => two_box w3 W (.int .i64 a1) (.int .i64 a2) (.int .i64 b1) (.int .i64 b2) hb)
      go_upto_region 8 with fail
      generalize ((w3.alloc (.cells #[.int .i64 a1, .int .i64 a2] 32)).alloc (.cells #[.int .i64 b1, .int .i64 b2] 32)) = w4 at *
      generalize w3.heap.size = n3 at *
      obtain ⟨k1, k2, k3, k4, -⟩ := HA.out _ (Below.refl _ _)
      obtain ⟨k5, k6⟩ := HX2.out _ hbA
      go_wp2_with fail
      refine (cOk.out _).mono ?_
      rintro e w5 ⟨rfl, hb5⟩
      clear k1 k2 k3 k4 k5 k6
      have hbA5 := hbA.trans (hb5.mono hbA.size)
      have hbz5 := hb4.trans (hbA5.mono hb4.size)
      obtain ⟨k1, k2, k3, k4, -⟩ := HA.out _ hb5
      obtain ⟨k5, k6⟩ := HX2.out _ hbA5
      obtain ⟨o, ho⟩ : ∃ o, onB (a1, a2) (b1, b2) (x, y) = o := ⟨_, rfl⟩
      rw [ho]
      cases o
      rotate_left
      · have HE := Lib.hid (HONk.out ho)
        clear ho
        go_wp2
        go_ret
        exact RetV.int HE.out.symm hbz5
      have hoff' := Lib.hid (HNXk.out ho)
      clear ho HONk HNXk
      go_upto_region 10 with fail
      go_cut [71] (fun v wx => v = .bool (crB (a1, a2) (b1, b2) (x, y)) ∧ Below w5.heap.size w5 wx)
      case first =>
        have HC := Lib.hid (show crB (a1, a2) (b1, b2) (x, y) = decide ((a2 ≤ y ∧ y < b2 ∧ 0 < sd (a1, a2) (b1, b2) (x, y)) ∨ (b2 ≤ y ∧ y < a2 ∧ sd (a1, a2) (b1, b2) (x, y) < 0)) from rfl)
        generalize crB (a1, a2) (b1, b2) (x, y) = z at *
        generalize sd (a1, a2) (b1, b2) (x, y) = s at *
        by_cases c1 : a2 ≤ y
        · by_cases c2 : y < b2
          · go_wp2_with fail
            refine (cSk.out _).mono ?_
            rintro e w6 ⟨rfl, hb6⟩
            clear k1 k2 k3 k4 k5 k6
            obtain ⟨k1, k2, k3, k4, -⟩ := HA.out _ (hb5.trans (hb6.mono hb5.size))
            obtain ⟨k5, k6⟩ := HX2.out _ (hbA5.trans (hb6.mono hbA5.size))
            by_cases c3 : 0 < s
            · have HC2 := Lib.hid (HC.out.trans (decide_eq_true (by omega)))
              clear HC
              go_wp2_with fail
              go_meet
              exact ⟨by first | (rw [HC2.out]; done) | (rw [HC2.out, decide_eq_false (by omega)]), hb6⟩
            · have HC2 := Lib.hid (HC.out.trans (decide_eq_false (by omega)))
              clear HC
              go_wp2_with fail
              go_meet
              exact ⟨by first | (rw [HC2.out]; done) | (rw [HC2.out, decide_eq_false (by omega)]), hb6⟩
          · have HC2 := Lib.hid (HC.out.trans (decide_eq_false (by omega)))
            clear HC
            go_wp2_with fail
            go_meet
            exact ⟨by rw [HC2.out], Below.refl _ _⟩
        · by_cases c2 : b2 ≤ y
          · have c4 : y < a2 := by omega
            go_wp2_with fail
            refine (cSk.out _).mono ?_
            rintro e w6 ⟨rfl, hb6⟩
            by_cases c3 : s < 0
            · have HC2 := Lib.hid (HC.out.trans (decide_eq_true (by omega)))
              clear HC
              go_wp2_with fail
              go_meet
              exact ⟨by first | (rw [HC2.out]; done) | (rw [HC2.out, decide_eq_false (by omega)]), hb6⟩
            · have HC2 := Lib.hid (HC.out.trans (decide_eq_false (by omega)))
              clear HC
              go_wp2_with fail
              go_meet
              exact ⟨by first | (rw [HC2.out]; done) | (rw [HC2.out, decide_eq_false (by omega)]), hb6⟩
          · have HC2 := Lib.hid (HC.out.trans (decide_eq_false (by omega)))
            clear HC
            go_wp2_with fail
            go_meet
            exact ⟨by rw [HC2.out], Below.refl _ _⟩
      case rest =>
        obtain ⟨rfl, hb6⟩ := hcut
        have hbz6 := hbA5.trans (hb6.mono hbA5.size)
        generalize crB (a1, a2) (b1, b2) (x, y) = z at *
        clear k1 k2 k3 k4 k5 k6
        cases z
        · go_wp2
          go_roundw
          case rel => exact ⟨k + 1, q, by omega, by go_num, rfl, Lib.hid (by rw [HPk.out]; simp), hoff', hbz6⟩
          case measure => simp [intOf]; omega
        · go_wp2
          go_roundw
          case rel => exact ⟨k + 1, !q, by omega, by go_num, rfl, Lib.hid (by rw [HPk.out]; simp), hoff', hbz6⟩
          case measure => simp [intOf]; omega
end Go.Proofs
