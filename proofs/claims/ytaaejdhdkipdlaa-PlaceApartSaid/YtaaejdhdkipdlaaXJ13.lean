/- The chapter's example, and the contracts in one shape. -/
import Derived.Test.YtaaejdhdkipdlaaXJ12
import Derived.Test.YtaaejdhdkipdlaaXArgs
set_option linter.unusedVariables false
set_option linter.unusedSimpArgs false
namespace Go.Proofs
open Go.RowKit Go.Proofs.Mp Go.Proofs.Uf Go.Maps

def tA : Cand := ⟨1, 0, 0, 4, 4, 0, 0, 1⟩
def tB : Cand := ⟨1, 9, 0, 13, 4, 0, 0, 5⟩
def tC : Cand := ⟨2, 2, 0, 6, 4, 0, 0, 1⟩
def t3 : List Cand := [tA, tB, tC]
theorem t3_wfs : wfs (feats t3) := by
  intro x hx
  simp only [feats, t3, tA, tB, tC, List.map_cons, List.map_nil, List.mem_cons, List.not_mem_nil, or_false] at hx
  rcases hx with rfl | rfl | rfl <;> rfl
theorem wfs12 : wfs [1, 2] := by intro x hx; simp at hx; rcases hx with rfl | rfl <;> rfl
theorem wfs11 : wfs [1, 1] := by intro x hx; simp at hx; subst hx; rfl
theorem set12 : setL [1, 2] = [1, 2] := setL_lit _ _ (by decide) (fun x => by simp)
theorem set0 : setL [0] = [0] := setL_lit _ _ (by decide) (fun x => by simp)
theorem ex_srch (lim : Nat) (h : lim = 4 ∨ lim = 100) : (srch t3 lim [1, 2] [] ⟨0, none⟩).map (fun y => y.best) = some (some [1, 2]) := by
  rcases h with rfl | rfl <;> decide
theorem ex_srch3 : (srch t3 3 [1, 2] [] ⟨0, none⟩).map (fun y => y.best) = none := by decide
theorem ex_of {lim : Nat} {steps : Int} (hl : limN steps = lim) (h : (srch t3 lim [1, 2] [] ⟨0, none⟩).map (fun y => y.best) = some (some [1, 2])) : exactL t3 [1, 2] steps = some [1, 2] := by
  unfold exactL
  rw [hl, show distL [1, 2] = [1, 2] by decide]
  rcases hs : srch t3 lim [1, 2] [] ⟨0, none⟩ with _ | y
  · rw [hs] at h; cases h
  · rw [hs] at h
    have h : some y.best = some (some [1, 2]) := h
    injection h with h
    show some (setL (y.best.getD [])) = _
    rw [h, Option.getD_some, set12]
theorem ex4 : exactL t3 [1, 2] 4 = some [1, 2] := ex_of (lim := 4) (by decide) (ex_srch 4 (.inl rfl))
theorem ex100 : exactL t3 [1, 2] 100 = some [1, 2] := ex_of (lim := 100) (by decide) (ex_srch 100 (.inr rfl))
theorem ex3 : exactL t3 [1, 2] 3 = none := by
  unfold exactL
  rw [show limN 3 = 3 by decide, show distL [1, 2] = [1, 2] by decide]
  rcases hs : srch t3 3 [1, 2] [] ⟨0, none⟩ with _ | y
  · rfl
  · have := ex_srch3
    rw [hs] at this
    cases this
theorem ex_gr : greedyL t3 [1, 2] = [0] := by
  show setL (greedyR t3 [1, 2]) = _
  rw [show greedyR t3 [1, 2] = [0] by decide, set0]
theorem ex_gr11 : greedyL t3 [1, 1] = [0] := by
  show setL (greedyR t3 [1, 1]) = _
  rw [show greedyR t3 [1, 1] = [0] by decide, set0]
theorem ex_bet : betterB t3 [1, 2] [1, 2] [0] = true ∧ betterB t3 [1, 2] [0] [1, 2] = false := by decide
theorem ex_val : validB t3 [1, 2] = true ∧ validB t3 [0, 2] = false := by
  constructor
  · refine validB_yes (by decide) (by decide) ?_
    intro n hn m hm
    have h1 : n < 2 := hn
    have : n = 1 ∧ m = 0 := by omega
    obtain ⟨rfl, rfl⟩ := this
    decide
  · exact validB_hit (n := 1) (m := 0) (by decide) (by decide) (by decide)
theorem t3_feats : setL (feats t3) = [1, 2] := setL_lit _ _ (by decide) (fun x => by simp [feats, t3, tA, tB, tC])
theorem t3_12 : Conn (Ed t3) 1 2 := .edge ⟨0, 2, by decide, by decide, by decide, by decide, by decide⟩ (.refl _)
theorem t3_cls : cls t3 = [[1, 2]] := by
  unfold cls
  rw [t3_feats]
  have a11 : dec (Conn (Ed t3) 1 1) = true := (dec_iff _).2 (.refl _)
  have a12 : dec (Conn (Ed t3) 1 2) = true := (dec_iff _).2 t3_12
  have r1 : dec (∀ y ∈ [(1 : Int), 2], Conn (Ed t3) 1 y → 1 ≤ y) = true := (dec_iff _).2 (by simp)
  have r2 : dec (∀ y ∈ [(1 : Int), 2], Conn (Ed t3) 2 y → 2 ≤ y) = false := dec_eq (by simp [t3_12.symm])
  unfold clS
  simp only [List.filter_cons, List.filter_nil, r1, r2, List.map_cons, List.map_nil, a11, a12, if_true, Bool.false_eq_true, if_false]
theorem ex_best : bestL t3 [1, 2] 100 = [1, 2] := by
  have h : bestR t3 [1, 2] 100 = [1, 2] := by
    unfold bestR ownR
    rw [t3_cls]
    show partL t3 100 ((distL [1, 2]).filter fun z => decide (z ∈ [(1 : Int), 2])) ++ [] = _
    rw [show ((distL [1, 2]).filter fun z => decide (z ∈ [(1 : Int), 2])) = [1, 2] by decide]
    unfold partL
    rw [if_pos (by decide), ex100]
    rfl
  unfold bestL
  rw [h, set12]

section
variable {w : World} {u v x y : Value} {l : List Cand} {order a b : List Int}
theorem k_exact {steps : Int} (h : SlC w u l) (g : SlI w v order) (h1 : l.length ≤ 1000) (h2 : order.length ≤ 1000) (h3 : wfs (feats l)) (h4 : wfs order) {ex : Option (List Int)} (he : exactL l order steps = ex) : Calls Try.prog 20 #[u, v, .int .i64 steps] w (ExPost w ex) := by
  subst he; exact place_exact u v l order steps w h1 h2 h3 h4 h g
theorem k_rexact {steps : Int} (h : SlC w u l) (g : SlI w v order) (h1 : l.length ≤ 1000) (h2 : order.length ≤ 1000) {ex : Option (List Int)} (he : exactL l order steps = ex) : Calls Try.prog 21 #[u, v, .int .i64 steps] w (ExPost w ex) := by
  subst he; exact ref_exact u v l order steps w h1 h2 h g
theorem k_greedy (h : SlC w u l) (g : SlI w v order) (h1 : l.length ≤ 1000) (h2 : order.length ≤ 1000) (h3 : wfs (feats l)) (h4 : wfs order) {r : List Int} (he : greedyL l order = r) : Calls Try.prog 17 #[u, v] w (PostS w r) := by
  subst he; exact place_greedy u v l order w h1 h2 h3 h4 h g
theorem k_rgreedy (h : SlC w u l) (g : SlI w v order) (h1 : l.length ≤ 1000) (h2 : order.length ≤ 1000) {r : List Int} (he : greedyL l order = r) : Calls Try.prog 19 #[u, v] w (PostS w r) := by
  subst he; exact ref_greedy u v l order w h1 h2 h g
theorem k_best {steps : Int} (h : SlC w u l) (g : SlI w v order) (h1 : l.length ≤ 1000) (h2 : order.length ≤ 1000) (h3 : wfs (feats l)) (h4 : wfs order) {r : List Int} (he : bestL l order steps = r) : Calls Try.prog 22 #[u, v, .int .i64 steps] w (PostS w r) := by
  subst he; exact place_best u v l order steps w h1 h2 h3 h4 h g
theorem k_rbest {steps : Int} (h : SlC w u l) (g : SlI w v order) (h1 : l.length ≤ 1000) (h2 : order.length ≤ 1000) {r : List Int} (he : bestL l order steps = r) : Calls Try.prog 23 #[u, v, .int .i64 steps] w (PostS w r) := by
  subst he; exact ref_best u v l order steps w h1 h2 h g
theorem k_better (h : SlC w u l) (g : SlI w v order) (hx : SlI w x a) (hy : SlI w y b) (h1 : l.length ≤ 1000) (h2 : order.length ≤ 1000) (h5 : a.length ≤ 1000) (h6 : b.length ≤ 1000) (h3 : wfs (feats l)) (h4 : wfs order) {r : Bool} (he : betterB l order a b = r) : Calls Try.prog 15 #[u, v, x, y] w (RetV w (.bool r)) := by
  subst he; exact place_better u v x y l order a b w h1 h2 h5 h6 h3 h4 h g hx hy
theorem k_rbetter (h : SlC w u l) (g : SlI w v order) (hx : SlI w x a) (hy : SlI w y b) (h1 : l.length ≤ 1000) (h2 : order.length ≤ 1000) (h5 : a.length ≤ 1000) (h6 : b.length ≤ 1000) {r : Bool} (he : betterB l order a b = r) : Calls Try.prog 16 #[u, v, x, y] w (RetV w (.bool r)) := by
  subst he; exact ref_better u v x y l order a b w h1 h2 h5 h6 h g hx hy
theorem k_val (h : SlC w u l) (hx : SlI w x a) (h1 : l.length ≤ 1000) (h5 : a.length ≤ 1000) {r : Bool} (he : validB l a = r) : Calls Try.prog 13 #[u, x] w (RetV w (.bool r)) := by
  subst he; exact place_valid u x l a w h1 h5 h hx
theorem k_rval (h : SlC w u l) (hx : SlI w x a) (h1 : l.length ≤ 1000) (h5 : a.length ≤ 1000) {r : Bool} (he : validB l a = r) : Calls Try.prog 14 #[u, x] w (RetV w (.bool r)) := by
  subst he; exact ref_valid u x l a w h1 h5 h hx
end
theorem SlC.alloc {w : World} {v : Value} {xs : List Cand} (h : SlC w v xs) (o : Obj) : SlC (w.alloc o) v xs := h.below (bw1 _ _)
set_option maxHeartbeats 1000000 in
theorem law_three (w : World) : Calls Try.prog 26 #[] w (fun e w' => ∃ v, e = .returned v ∧ SlC w' v t3 ∧ Below w.heap.size w w') := by
  go_enter Try.func26, Try.ntmps26
  go_wp2_with fail
  go_ret
  exact ⟨_, rfl, ⟨_, _, rfl, by decide, rd_lit encC_len w _ 45 t3 rfl⟩, bw1 _ _⟩
end Go.Proofs
/- The chapter's examples hold. -/
set_option linter.unusedVariables false
set_option linter.unusedSimpArgs false
namespace Go.Proofs
open Go.RowKit Go.Proofs.Mp Go.Proofs.Uf Go.Maps

set_option maxRecDepth 100000 in
set_option maxHeartbeats 4000000 in
theorem law_awake (w : World) : Calls Try.prog 12 #[] w (RetV w (.bool true)) := by
  have k0 : Below w.heap.size w w := Below.refl _ _
  go_enter Try.func12, Try.ntmps12
  go_wp2_with fail
  refine (law_three w).mono ?_
  rintro e w1 ⟨v1, rfl, hl, hb1⟩
  have k1 := k0.trans (hb1.mono k0.size)
  clear k0 hb1
  have ho := SlI.lit w1 #[.int .i64 1, .int .i64 2] [1, 2] 2 rfl rfl
  replace hl := hl.alloc (.cells #[.int .i64 1, .int .i64 2] 3)
  replace k1 := k1.alloc k1.size (.cells #[.int .i64 1, .int .i64 2] 3)
  go_wp2_with fail
  generalize (w1.alloc (.cells #[.int .i64 1, .int .i64 2] 3)) = w2 at *
  refine (k_exact hl ho (by decide) (by decide) t3_wfs wfs12 ex4).mono ?_
  rintro e w3 ⟨v3, rfl, ha, hb3⟩
  rw [show errN (some [1, 2]) = 0 from rfl]
  have k3 := k1.trans (hb3.mono k1.size)
  replace hl := hl.below hb3
  replace ho := ho.below hb3
  clear k1 hb3
  replace ha : SlI _ _ [1, 2] := ha
  go_wp2_with fail
  refine (k_exact hl ho (by decide) (by decide) t3_wfs wfs12 ex3).mono ?_
  rintro e w4 ⟨v4, rfl, hx, hb4⟩
  rw [show errN none = 24 from rfl]
  have k4 := k3.trans (hb4.mono k3.size)
  replace hl := hl.below hb4
  replace ho := ho.below hb4
  replace ha := ha.below hb4
  clear k3 hb4
  clear hx
  go_wp2_with fail
  refine (k_greedy hl ho (by decide) (by decide) t3_wfs wfs12 ex_gr).mono ?_
  rintro e w5 ⟨v5, rfl, hg, hb5⟩
  have k5 := k4.trans (hb5.mono k4.size)
  replace hl := hl.below hb5
  replace ho := ho.below hb5
  replace ha := ha.below hb5
  clear k4 hb5
  have h12 := SlI.lit w5 #[.int .i64 1, .int .i64 2] [1, 2] 2 rfl rfl
  replace hl := hl.alloc (.cells #[.int .i64 1, .int .i64 2] 3)
  replace ho := ho.alloc (.cells #[.int .i64 1, .int .i64 2] 3)
  replace ha := ha.alloc (.cells #[.int .i64 1, .int .i64 2] 3)
  replace hg := hg.alloc (.cells #[.int .i64 1, .int .i64 2] 3)
  replace k5 := k5.alloc k5.size (.cells #[.int .i64 1, .int .i64 2] 3)
  go_wp2_with fail
  generalize (w5.alloc (.cells #[.int .i64 1, .int .i64 2] 3)) = w6 at *
  refine (k_same (b := true) ha h12 (by decide) (by decide) (by decide)).mono ?_
  rintro e w7 ⟨rfl, hb7⟩
  have k7 := k5.trans (hb7.mono k5.size)
  replace hl := hl.below hb7
  replace ho := ho.below hb7
  replace ha := ha.below hb7
  replace hg := hg.below hb7
  replace h12 := h12.below hb7
  clear k5 hb7
  clear h12
  have h0 := SlI.lit w7 #[.int .i64 0] [0] 1 rfl rfl
  replace hl := hl.alloc (.cells #[.int .i64 0] 3)
  replace ho := ho.alloc (.cells #[.int .i64 0] 3)
  replace ha := ha.alloc (.cells #[.int .i64 0] 3)
  replace hg := hg.alloc (.cells #[.int .i64 0] 3)
  replace k7 := k7.alloc k7.size (.cells #[.int .i64 0] 3)
  go_wp2_with fail
  generalize (w7.alloc (.cells #[.int .i64 0] 3)) = w8 at *
  refine (k_same (b := true) hg h0 (by decide) (by decide) (by decide)).mono ?_
  rintro e w9 ⟨rfl, hb9⟩
  have k9 := k7.trans (hb9.mono k7.size)
  replace hl := hl.below hb9
  replace ho := ho.below hb9
  replace ha := ha.below hb9
  replace hg := hg.below hb9
  replace h0 := h0.below hb9
  clear k7 hb9
  clear h0
  go_wp2_with fail
  refine (k_better hl ho ha hg (by decide) (by decide) (by decide) (by decide) t3_wfs wfs12 ex_bet.1).mono ?_
  rintro e w10 ⟨rfl, hb10⟩
  have k10 := k9.trans (hb10.mono k9.size)
  replace hl := hl.below hb10
  replace ho := ho.below hb10
  replace ha := ha.below hb10
  replace hg := hg.below hb10
  clear k9 hb10
  go_wp2_with fail
  refine (k_better hl ho hg ha (by decide) (by decide) (by decide) (by decide) t3_wfs wfs12 ex_bet.2).mono ?_
  rintro e w11 ⟨rfl, hb11⟩
  have k11 := k10.trans (hb11.mono k10.size)
  replace hl := hl.below hb11
  replace ho := ho.below hb11
  replace ha := ha.below hb11
  replace hg := hg.below hb11
  clear k10 hb11
  go_wp2_with fail
  refine (k_val hl ha (by decide) (by decide) ex_val.1).mono ?_
  rintro e w12 ⟨rfl, hb12⟩
  have k12 := k11.trans (hb12.mono k11.size)
  replace hl := hl.below hb12
  replace ho := ho.below hb12
  replace ha := ha.below hb12
  replace hg := hg.below hb12
  clear k11 hb12
  have h02 := SlI.lit w12 #[.int .i64 0, .int .i64 2] [0, 2] 2 rfl rfl
  replace hl := hl.alloc (.cells #[.int .i64 0, .int .i64 2] 3)
  replace ho := ho.alloc (.cells #[.int .i64 0, .int .i64 2] 3)
  replace ha := ha.alloc (.cells #[.int .i64 0, .int .i64 2] 3)
  replace hg := hg.alloc (.cells #[.int .i64 0, .int .i64 2] 3)
  replace k12 := k12.alloc k12.size (.cells #[.int .i64 0, .int .i64 2] 3)
  go_wp2_with fail
  generalize (w12.alloc (.cells #[.int .i64 0, .int .i64 2] 3)) = w13 at *
  refine (k_val hl h02 (by decide) (by decide) ex_val.2).mono ?_
  rintro e w14 ⟨rfl, hb14⟩
  have k14 := k12.trans (hb14.mono k12.size)
  replace hl := hl.below hb14
  replace ho := ho.below hb14
  replace ha := ha.below hb14
  replace hg := hg.below hb14
  replace h02 := h02.below hb14
  clear k12 hb14
  clear h02
  go_wp2_with fail
  refine (k_best hl ho (by decide) (by decide) t3_wfs wfs12 ex_best).mono ?_
  rintro e w15 ⟨v15, rfl, hb9, hb15⟩
  have k15 := k14.trans (hb15.mono k14.size)
  replace hl := hl.below hb15
  replace ho := ho.below hb15
  replace ha := ha.below hb15
  replace hg := hg.below hb15
  clear k14 hb15
  have h12 := SlI.lit w15 #[.int .i64 1, .int .i64 2] [1, 2] 2 rfl rfl
  replace hl := hl.alloc (.cells #[.int .i64 1, .int .i64 2] 3)
  replace ho := ho.alloc (.cells #[.int .i64 1, .int .i64 2] 3)
  replace ha := ha.alloc (.cells #[.int .i64 1, .int .i64 2] 3)
  replace hg := hg.alloc (.cells #[.int .i64 1, .int .i64 2] 3)
  replace hb9 := hb9.alloc (.cells #[.int .i64 1, .int .i64 2] 3)
  replace k15 := k15.alloc k15.size (.cells #[.int .i64 1, .int .i64 2] 3)
  go_wp2_with fail
  generalize (w15.alloc (.cells #[.int .i64 1, .int .i64 2] 3)) = w16 at *
  refine (k_same (b := true) hb9 h12 (by decide) (by decide) (by decide)).mono ?_
  rintro e w17 ⟨rfl, hb17⟩
  have k17 := k15.trans (hb17.mono k15.size)
  replace hl := hl.below hb17
  replace ho := ho.below hb17
  replace ha := ha.below hb17
  replace hg := hg.below hb17
  replace hb9 := hb9.below hb17
  replace h12 := h12.below hb17
  clear k15 hb17
  clear h12
  clear hb9
  have h11 := SlI.lit w17 #[.int .i64 1, .int .i64 1] [1, 1] 2 rfl rfl
  replace hl := hl.alloc (.cells #[.int .i64 1, .int .i64 1] 3)
  replace ho := ho.alloc (.cells #[.int .i64 1, .int .i64 1] 3)
  replace ha := ha.alloc (.cells #[.int .i64 1, .int .i64 1] 3)
  replace hg := hg.alloc (.cells #[.int .i64 1, .int .i64 1] 3)
  replace k17 := k17.alloc k17.size (.cells #[.int .i64 1, .int .i64 1] 3)
  go_wp2_with fail
  generalize (w17.alloc (.cells #[.int .i64 1, .int .i64 1] 3)) = w18 at *
  refine (k_greedy hl h11 (by decide) (by decide) t3_wfs wfs11 ex_gr11).mono ?_
  rintro e w19 ⟨v19, rfl, hg1, hb19⟩
  have k19 := k17.trans (hb19.mono k17.size)
  replace hl := hl.below hb19
  replace ho := ho.below hb19
  replace ha := ha.below hb19
  replace hg := hg.below hb19
  replace h11 := h11.below hb19
  clear k17 hb19
  obtain ⟨A9, c9, rfl, _⟩ := hg1
  go_wp2
  go_ret
  exact RetV.bool rfl k19
end Go.Proofs
/- Light, and the laws on Valid, Better and Greedy. -/
set_option linter.unusedVariables false
set_option linter.unusedSimpArgs false
namespace Go.Proofs
open Go.RowKit Go.Proofs.Mp Go.Proofs.Uf Go.Maps

set_option maxHeartbeats 2000000 in
theorem c_light (A1 A2 A3 A4 : Option Addr) (n1 c1 n2 c2 n3 c3 n4 c4 : Nat) (w : World) {b : Bool} (hb : (decide (n1 ≤ 20) && decide (n2 ≤ 20) && decide (n3 ≤ 20) && decide (n4 ≤ 20)) = b) :
    Calls Try.prog 11 #[.slice A1 n1 c1, .slice A2 n2 c2, .slice A3 n3 c3, .slice A4 n4 c4] w (RetV w (.bool b)) := by
  subst hb
  by_cases h1 : n1 ≤ 20
  · have d1 : decide ((n1 : Int) ≤ 20) = true := decide_eq_true (by omega)
    have i1 : (n1 : Int) ≤ 20 := by omega
    by_cases h2 : n2 ≤ 20
    · have d2 : decide ((n2 : Int) ≤ 20) = true := decide_eq_true (by omega)
      have i2 : (n2 : Int) ≤ 20 := by omega
      by_cases h3 : n3 ≤ 20
      · have d3 : decide ((n3 : Int) ≤ 20) = true := decide_eq_true (by omega)
        have i3 : (n3 : Int) ≤ 20 := by omega
        by_cases h4 : n4 ≤ 20
        · have d4 : decide ((n4 : Int) ≤ 20) = true := decide_eq_true (by omega)
          have i4 : (n4 : Int) ≤ 20 := by omega
          go_enter Try.func11, Try.ntmps11
          go_wp2
          go_ret
          exact RetV.bool (by simp [h1, h2, h3, h4]) (Below.refl _ _)
        · have d4 : decide ((n4 : Int) ≤ 20) = false := decide_eq_false (by omega)
          have i4 : ¬ (n4 : Int) ≤ 20 := by omega
          go_enter Try.func11, Try.ntmps11
          go_wp2
          go_ret
          exact RetV.bool (by simp [h1, h2, h3, h4]) (Below.refl _ _)
      · have d3 : decide ((n3 : Int) ≤ 20) = false := decide_eq_false (by omega)
        have i3 : ¬ (n3 : Int) ≤ 20 := by omega
        go_enter Try.func11, Try.ntmps11
        go_wp2
        go_ret
        exact RetV.bool (by simp [h1, h2, h3]) (Below.refl _ _)
    · have d2 : decide ((n2 : Int) ≤ 20) = false := decide_eq_false (by omega)
      have i2 : ¬ (n2 : Int) ≤ 20 := by omega
      go_enter Try.func11, Try.ntmps11
      go_wp2
      go_ret
      exact RetV.bool (by simp [h1, h2]) (Below.refl _ _)
  · have d1 : decide ((n1 : Int) ≤ 20) = false := decide_eq_false (by omega)
    have i1 : ¬ (n1 : Int) ≤ 20 := by omega
    go_enter Try.func11, Try.ntmps11
    go_wp2
    go_ret
    exact RetV.bool (by simp [h1]) (Below.refl _ _)
theorem k_light {w : World} {u v x y : Value} {l : List Cand} {a b c : List Int} (h : SlC w u l) (g : SlI w v a) (hx : SlI w x b) (hy : SlI w y c) {r : Bool} (hr : (decide (l.length ≤ 20) && decide (a.length ≤ 20) && decide (b.length ≤ 20) && decide (c.length ≤ 20)) = r) :
    Calls Try.prog 11 #[u, v, x, y] w (RetV w (.bool r)) := by
  obtain ⟨A1, c1, rfl, _⟩ := h
  obtain ⟨A2, c2, rfl, _⟩ := g
  obtain ⟨A3, c3, rfl, _⟩ := hx
  obtain ⟨A4, c4, rfl, _⟩ := hy
  exact c_light A1 A2 A3 A4 _ _ _ _ _ _ _ _ w hr
theorem SlI.nil0 (w : World) : SlI w (.slice none 0 0) [] := ⟨none, 0, rfl, Nat.le_refl _, Rd.nil _⟩
/-- what the exact search finds is valid, and nothing valid is better -/
theorem exactL_some {l : List Cand} {order b : List Int} {steps : Int} (h : exactL l order steps = some b) : validB l b = true ∧ (∀ other, validB l other = true → betterB l order other b = false) ∧ b.length ≤ l.length := by
  unfold exactL at h
  rcases ho : srch l (limN steps) (distL order) [] ⟨0, none⟩ with _ | y
  · rw [ho] at h; cases h
  · rw [ho] at h
    obtain ⟨b', hb, hf⟩ := srch_found ho
    injection h with h
    have h : setL (y.best.getD []) = b := h
    rw [hb, Option.getD_some] at h
    subst h
    have hv := hf.valid (distL_nodup order)
    refine ⟨hv, fun other ho => hf.better ho, asc_len (setL_asc _) fun x hx => ?_⟩
    unfold validB at hv
    simp only [Bool.and_eq_true] at hv
    exact List.all_eq_true.1 hv.1.2 x hx
theorem exactL_len (l : List Cand) (order : List Int) (steps : Int) : ((exactL l order steps).getD []).length ≤ l.length := by
  rcases h : exactL l order steps with _ | b
  · exact Nat.zero_le _
  · exact (exactL_some h).2.2
theorem greedyL_len (l : List Cand) (order : List Int) : (greedyL l order).length ≤ l.length := asc_len (setL_asc _) (greedyL_in l order)
theorem exactL_more {l : List Cand} {order b : List Int} {n m : Int} (hnm : limN n ≤ limN m) (h : exactL l order n = some b) : exactL l order m = some b := by
  unfold exactL at *
  rcases ho : srch l (limN n) (distL order) [] ⟨0, none⟩ with _ | y
  · rw [ho] at h; cases h
  · rw [ho] at h
    rw [srch_more l hnm _ _ _ _ ho]
    exact h
set_option maxRecDepth 100000 in
set_option maxHeartbeats 4000000 in
theorem law_compares (u v x y : Value) (l : List Cand) (order a b : List Int) (w : World) (hl : SlC w u l) (ho : SlI w v order) (ha : SlI w x a) (hb : SlI w y b) (hwf : wfs (feats l)) (hwo : wfs order) :
    Calls Try.prog 3 #[u, v, x, y] w (RetV w (.bool true)) := by
  obtain ⟨va, hva⟩ : ∃ va, validB l a = va := ⟨_, rfl⟩
  obtain ⟨bt, hbt⟩ : ∃ bt, betterB l order a b = bt := ⟨_, rfl⟩
  have k0 : Below w.heap.size w w := Below.refl _ _
  have hn := SlI.nil0 w
  rcases hq : (decide (l.length ≤ 20) && decide (order.length ≤ 20) && decide (a.length ≤ 20) && decide (b.length ≤ 20)) with _ | _
  · have hq0 := hq
    clear hq0
    go_enter Try.func3, Try.ntmps3
    go_wp2_with fail
    refine (k_light (r := false) hl ho ha hb hq).mono ?_
    rintro e w1 ⟨rfl, hb1⟩
    have k1 := k0.trans (hb1.mono k0.size)
    replace hl := hl.below hb1
    replace ho := ho.below hb1
    replace ha := ha.below hb1
    replace hb := hb.below hb1
    clear k0 hb1
    go_wp2_with fail
    refine (law_awake w1).mono ?_
    rintro e w2 ⟨rfl, hb2⟩
    have k2 := k1.trans (hb2.mono k1.size)
    replace hl := hl.below hb2
    replace ho := ho.below hb2
    replace ha := ha.below hb2
    replace hb := hb.below hb2
    clear k1 hb2
    go_wp2
    go_ret
    exact RetV.bool rfl k2
  · have hq1 := hq
    simp only [Bool.and_eq_true, decide_eq_true_iff] at hq1
    obtain ⟨⟨⟨q1, q2⟩, q3⟩, q4⟩ := hq1
    go_enter Try.func3, Try.ntmps3
    go_wp2_with fail
    refine (k_light (r := true) hl ho ha hb hq).mono ?_
    rintro e w1 ⟨rfl, hb1⟩
    have k1 := k0.trans (hb1.mono k0.size)
    replace hl := hl.below hb1
    replace ho := ho.below hb1
    replace ha := ha.below hb1
    replace hb := hb.below hb1
    clear k0 hb1
    clear hq
    go_wp2_with fail
    refine (law_awake w1).mono ?_
    rintro e w2 ⟨rfl, hb2⟩
    have k2 := k1.trans (hb2.mono k1.size)
    replace hl := hl.below hb2
    replace ho := ho.below hb2
    replace ha := ha.below hb2
    replace hb := hb.below hb2
    clear k1 hb2
    go_wp2_with fail
    refine (k_val hl ha (by omega) (by omega) hva).mono ?_
    rintro e w3 ⟨rfl, hb3⟩
    have k3 := k2.trans (hb3.mono k2.size)
    replace hl := hl.below hb3
    replace ho := ho.below hb3
    replace ha := ha.below hb3
    replace hb := hb.below hb3
    clear k2 hb3
    go_wp2_with fail
    refine (k_rval hl ha (by omega) (by omega) hva).mono ?_
    rintro e w4 ⟨rfl, hb4⟩
    have k4 := k3.trans (hb4.mono k3.size)
    replace hl := hl.below hb4
    replace ho := ho.below hb4
    replace ha := ha.below hb4
    replace hb := hb.below hb4
    clear k3 hb4
    go_wp2_with fail
    refine (k_better hl ho ha hb (by omega) (by omega) (by omega) (by omega) hwf hwo hbt).mono ?_
    rintro e w5 ⟨rfl, hb5⟩
    have k5 := k4.trans (hb5.mono k4.size)
    replace hl := hl.below hb5
    replace ho := ho.below hb5
    replace ha := ha.below hb5
    replace hb := hb.below hb5
    clear k4 hb5
    go_wp2_with fail
    refine (k_rbetter hl ho ha hb (by omega) (by omega) (by omega) (by omega) hbt).mono ?_
    rintro e w6 ⟨rfl, hb6⟩
    have k6 := k5.trans (hb6.mono k5.size)
    replace hl := hl.below hb6
    replace ho := ho.below hb6
    replace ha := ha.below hb6
    replace hb := hb.below hb6
    clear k5 hb6
    have HV := Lib.hid hva
    clear hva hbt
    cases va <;> cases bt
    · go_wp2
      go_ret
      exact RetV.bool rfl k6
    · go_wp2
      go_ret
      exact RetV.bool rfl k6
    · go_wp2
      go_ret
      exact RetV.bool rfl k6
    · go_wp2
      go_ret
      exact RetV.bool rfl k6
set_option maxRecDepth 100000 in
set_option maxHeartbeats 4000000 in
theorem law_greedy (u v : Value) (l : List Cand) (order : List Int) (w : World) (hl : SlC w u l) (ho : SlI w v order) (hwf : wfs (feats l)) (hwo : wfs order) :
    Calls Try.prog 4 #[u, v] w (RetV w (.bool true)) := by
  have hgl := greedyL_len l order
  have HV0 := greedyL_valid l order
  obtain ⟨gr, hgr⟩ : ∃ gr, greedyL l order = gr := ⟨_, rfl⟩
  rw [hgr] at hgl HV0
  have HV := Lib.hid HV0
  clear HV0
  have k0 : Below w.heap.size w w := Below.refl _ _
  have hn := SlI.nil0 w
  rcases hq : (decide (l.length ≤ 20) && decide (order.length ≤ 20) && decide (([] : List Int).length ≤ 20) && decide (([] : List Int).length ≤ 20)) with _ | _
  · have hq0 := hq
    clear hq0
    go_enter Try.func4, Try.ntmps4
    go_wp2_with fail
    refine (k_light (r := false) hl ho hn hn hq).mono ?_
    rintro e w1 ⟨rfl, hb1⟩
    have k1 := k0.trans (hb1.mono k0.size)
    replace hl := hl.below hb1
    replace ho := ho.below hb1
    replace hn := hn.below hb1
    clear k0 hb1
    go_wp2_with fail
    refine (law_awake w1).mono ?_
    rintro e w2 ⟨rfl, hb2⟩
    have k2 := k1.trans (hb2.mono k1.size)
    replace hl := hl.below hb2
    replace ho := ho.below hb2
    replace hn := hn.below hb2
    clear k1 hb2
    go_wp2
    go_ret
    exact RetV.bool rfl k2
  · have hq1 := hq
    simp only [Bool.and_eq_true, decide_eq_true_iff] at hq1
    obtain ⟨⟨⟨q1, q2⟩, q3⟩, q4⟩ := hq1
    go_enter Try.func4, Try.ntmps4
    go_wp2_with fail
    refine (k_light (r := true) hl ho hn hn hq).mono ?_
    rintro e w1 ⟨rfl, hb1⟩
    have k1 := k0.trans (hb1.mono k0.size)
    replace hl := hl.below hb1
    replace ho := ho.below hb1
    replace hn := hn.below hb1
    clear k0 hb1
    go_wp2_with fail
    refine (k_greedy hl ho (by omega) (by omega) hwf hwo hgr).mono ?_
    rintro e w2 ⟨v2, rfl, hg, hb2⟩
    have k2 := k1.trans (hb2.mono k1.size)
    replace hl := hl.below hb2
    replace ho := ho.below hb2
    replace hn := hn.below hb2
    clear k1 hb2
    go_wp2_with fail
    refine (law_awake w2).mono ?_
    rintro e w3 ⟨rfl, hb3⟩
    have k3 := k2.trans (hb3.mono k2.size)
    replace hl := hl.below hb3
    replace ho := ho.below hb3
    replace hn := hn.below hb3
    replace hg := hg.below hb3
    clear k2 hb3
    go_wp2_with fail
    refine (k_rgreedy hl ho (by omega) (by omega) hgr).mono ?_
    rintro e w4 ⟨v4, rfl, hg2, hb4⟩
    have k4 := k3.trans (hb4.mono k3.size)
    replace hl := hl.below hb4
    replace ho := ho.below hb4
    replace hn := hn.below hb4
    replace hg := hg.below hb4
    clear k3 hb4
    go_wp2_with fail
    refine (k_same (b := true) hg hg2 (by omega) (by omega) (by simp)).mono ?_
    rintro e w5 ⟨rfl, hb5⟩
    have k5 := k4.trans (hb5.mono k4.size)
    replace hl := hl.below hb5
    replace ho := ho.below hb5
    replace hn := hn.below hb5
    replace hg := hg.below hb5
    replace hg2 := hg2.below hb5
    clear k4 hb5
    clear hg2
    go_wp2_with fail
    refine (k_val hl hg (by omega) (by omega) HV.out).mono ?_
    rintro e w6 ⟨rfl, hb6⟩
    have k6 := k5.trans (hb6.mono k5.size)
    replace hl := hl.below hb6
    replace ho := ho.below hb6
    replace hn := hn.below hb6
    replace hg := hg.below hb6
    clear k5 hb6
    go_wp2
    go_ret
    exact RetV.bool rfl k6
end Go.Proofs
/- The arguments of the laws over candidates. -/
set_option linter.unusedVariables false
namespace Go.Proofs
open Go.ChangeShapes Go.WideShapes Go.RowKit Go.Proofs.Mp Go.Proofs.Uf

theorem flat3 : FlatI Try.prog 3 1 := FlatI.int Try.underlying3
theorem flat43 : FlatI Try.prog 43 (1 + 1) := FlatI.struct2 Try.underlying43 (by kernel_rfl) rfl rfl (by kernel_rfl) (by kernel_rfl) flat3 flat3
theorem flat41 : FlatI Try.prog 41 (1 + 1 + 1 + 1) := FlatI.struct4 Try.underlying41 (by kernel_rfl) rfl rfl rfl rfl (by kernel_rfl) (by kernel_rfl) (by kernel_rfl) (by kernel_rfl) flat3 flat3 flat3 flat3
theorem flat45 : FlatI Try.prog 45 (1 + (1 + 1 + 1 + 1) + (1 + 1) + 1) := FlatI.struct4 Try.underlying45 (by kernel_rfl) rfl rfl rfl rfl (by kernel_rfl) (by kernel_rfl) (by kernel_rfl) (by kernel_rfl) flat3 flat41 flat43 flat3
def mkC (zs : List Int) : Cand := ⟨zs[0]!, zs[1]!, zs[2]!, zs[3]!, zs[4]!, zs[5]!, zs[6]!, zs[7]!⟩
def mkI (zs : List Int) : Int := zs[0]!
theorem encC_mk : ∀ zs : List Int, zs.length = 8 → encC (mkC zs) = zs.map (Value.int .i64)
  | [_, _, _, _, _, _, _, _], _ => rfl
theorem encI_mk : ∀ zs : List Int, zs.length = 1 → Mp.encI (mkI zs) = zs.map (Value.int .i64)
  | [_], _ => rfl
theorem wfs_of {xs : List Cand} (h : ∀ x ∈ xs, ∃ zs : List Int, x = mkC zs ∧ zs.length = 8 ∧ ∀ z ∈ zs, (Lit.int .i64 z).wf = true) : wfs (feats xs) := by
  intro f hf
  obtain ⟨x, hx, rfl⟩ := List.mem_map.1 hf
  obtain ⟨zs, rfl, hl, hw⟩ := h x hx
  match zs, hl with
  | z :: _, _ => exact hw z (List.mem_cons_self ..)
theorem wfsI_of {xs : List Int} (h : ∀ x ∈ xs, ∃ zs : List Int, x = mkI zs ∧ zs.length = 1 ∧ ∀ z ∈ zs, (Lit.int .i64 z).wf = true) : wfs xs := by
  intro x hx
  obtain ⟨zs, rfl, hl, hw⟩ := h x hx
  match zs, hl with
  | z :: _, _ => exact hw z (List.mem_cons_self ..)
end Go.Proofs
