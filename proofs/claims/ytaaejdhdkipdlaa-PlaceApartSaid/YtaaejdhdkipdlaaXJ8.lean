/- cmp.Or of two, and what ordered hands to the sort. -/
import Derived.Test.YtaaejdhdkipdlaaXJ7
import Derived.Sort.Grow
import Derived.Shelf.SlSortCmp.Whole1
import Derived.Shelf.SlSortCmp.NoneTotal
set_option linter.unusedVariables false
set_option linter.unusedSimpArgs false
namespace Go.Proofs
open Go.RowKit Go.Proofs.Mp Go.Proofs.Uf

/-- draws and blocks behind a world -/
def Grown (w w' : World) : Prop := ∃ q os, w' = Go.Sort.grow (w.drewN q) os
theorem Grown.refl (w : World) : Grown w w := ⟨0, #[], by rw [Go.Sort.grow_empty]; rfl⟩
theorem Grown.trans {a b c : World} (h : Grown a b) (g : Grown b c) : Grown a c := by
  obtain ⟨q, os, rfl⟩ := h
  obtain ⟨q', os', rfl⟩ := g
  refine ⟨q + q', os ++ os', ?_⟩
  rw [← Go.Sort.grow_grow]
  show Go.Sort.grow (Go.Sort.grow ((a.drewN q).drewN q') os) os' = _
  congr 2
  simp [World.drewN, Nat.add_assoc]
theorem Grown.mono {b c : World} (h : Grown b c) {p : Prop} (_ : p) : Grown b c := h
theorem Grown.size {b c : World} (h : Grown b c) : b.heap.size ≤ c.heap.size := by obtain ⟨q, os, rfl⟩ := h; simp [Go.Sort.grow, World.drewN]
theorem Grown.alloc {b c : World} (h : Grown b c) {p : Prop} (_ : p) (o : Obj) : Grown b (c.alloc o) := h.trans ⟨0, #[o], by rw [Go.Sort.alloc_eq_grow]; rfl⟩
theorem Grown.drew {b c : World} (h : Grown b c) : Grown b c.drew := h.trans ⟨1, #[], by rw [Go.Sort.grow_empty]; rfl⟩
theorem Grown.below {b c : World} (h : Grown b c) : Below b.heap.size b c := by
  obtain ⟨q, os, rfl⟩ := h
  refine ⟨rfl, rfl, rfl, by simp [Go.Sort.grow, World.drewN], fun k hk => ?_⟩
  rw [Go.Sort.heap_grow_old _ _ (by simpa [World.drewN] using hk)]; rfl
/-- a slice of two integers -/
def Two (w : World) (v : Value) (a b : Int) : Prop := ∃ B, v = .slice (some ⟨B, 0, none⟩) 2 2 ∧ w.cell? ⟨B, 0, none⟩ = some (.int .i64 a) ∧ w.cell? ⟨B, 1, none⟩ = some (.int .i64 b)
theorem Two.made (w : World) (a b : Int) : Two (w.alloc (.cells #[.int .i64 a, .int .i64 b] 3)) (.slice (some ⟨w.heap.size, 0, none⟩) 2 2) a b := ⟨_, rfl, by unfold World.cell?; rw [heap_alloc_last]; rfl, by unfold World.cell?; rw [heap_alloc_last]; rfl⟩
def orI (a b : Int) : Int := if a ≠ 0 then a else b
set_option maxHeartbeats 2000000 in
theorem or_two {w : World} {v : Value} {a b : Int} (h : Two w v a b) : Calls Try.prog 52 #[v] w (fun e w' => e = .returned (.int .i64 (orI a b)) ∧ Grown w w') := by
  obtain ⟨B, rfl, g0, g1⟩ := h
  have HO : Hid (orI a b = if a ≠ 0 then a else b) := Lib.hid rfl
  generalize orI a b = r at *
  go_enter Try.func52, Try.ntmps52
  go_wp2
  go_loopw [8] (fun i wr => wr = w ∧ ((i = .int .i64 0) ∨ (i = .int .i64 1 ∧ Hid (a = 0)) ∨ (i = .int .i64 2 ∧ Hid (a = 0) ∧ Hid (b = 0)))) (fun i _ => 2 - (intOf i).toNat)
  case atStart => exact ⟨rfl, .inl rfl⟩
  case round =>
    obtain ⟨rfl, hrel⟩ := hrel
    rcases hrel with rfl | ⟨rfl, ha⟩ | ⟨rfl, ha, hb⟩
    · by_cases h0 : a = 0
      · subst h0
        clear g1
        go_wp2
        go_roundw
        case rel => exact ⟨trivial, .inr (.inl ⟨by go_num, Lib.hid trivial⟩)⟩
        case measure => simp [intOf]
      · have d0 : (a != 0) = true := by simp [h0]
        have HE : Hid (r = a) := Lib.hid (by rw [HO.out, if_pos h0])
        clear h0 g1
        go_wp2
        go_ret
        exact ⟨by rw [HE.out]; rfl, Grown.refl _⟩
    · by_cases h0 : b = 0
      · have HA : Hid (a = 0) := ha
        subst h0
        clear g0 ha
        go_wp2
        go_roundw
        case rel => exact ⟨trivial, .inr (.inr ⟨by go_num, HA, Lib.hid trivial⟩)⟩
        case measure => simp [intOf]
      · have d0 : (b != 0) = true := by simp [h0]
        have HE : Hid (r = b) := Lib.hid (by rw [HO.out, if_neg (by simp [ha.out])])
        clear h0 g0 ha
        go_wp2
        go_ret
        exact ⟨by rw [HE.out]; rfl, Grown.refl _⟩
    · have HE : Hid (r = 0) := Lib.hid (by rw [HO.out, if_neg (by simp [ha.out])]; exact hb.out)
      clear ha hb g0 g1
      go_wp2
      go_ret
      exact ⟨by rw [HE.out]; rfl, Grown.refl _⟩
def cmpK (l : List Cand) (i j : Nat) : Int := orI (Lib.compareInt l[i]!.co l[j]!.co) (Lib.compareInt (i : Int) (j : Int))
theorem cmp_grown (x y : Int) (w : World) : Calls Try.prog 53 #[.int .i64 x, .int .i64 y] w (fun e w' => e = .returned (.int .i64 (Lib.compareInt x y)) ∧ Grown w w') :=
  (Try.cmp_Compare_int x y w).mono fun e w' ⟨he, hw⟩ => ⟨he, by rw [hw]; exact Grown.refl _⟩
set_option maxRecDepth 100000 in
set_option maxHeartbeats 4000000 in
theorem closure51 (i j : Nat) (l : List Cand) (w : World) (bb ca : Nat) (A : Option Addr) (hi : i < l.length) (hj : j < l.length) (hB : w.cell? ⟨bb, 0, none⟩ = some (.slice A l.length ca)) (hb : bb < w.heap.size) (hR : Rd 8 encC w A l) :
    Calls Try.prog 51 #[.int .i64 i, .int .i64 j, .pointer (some ⟨bb, 0, none⟩)] w (fun e w' => e = .returned (.int .i64 (cmpK l i j)) ∧ Grown w w') := by
  obtain ⟨bl, offl, rfl, hbl, HCL⟩ := Rd.rangeCs hR (show 0 < l.length by omega)
  have hck : cmpK l i j = orI (Lib.compareInt l[i]!.co l[j]!.co) (Lib.compareInt (i : Int) (j : Int)) := rfl
  obtain ⟨x, hx⟩ : ∃ x, l[i]!.co = x := ⟨_, rfl⟩
  obtain ⟨y, hy⟩ : ∃ y, l[j]!.co = y := ⟨_, rfl⟩
  have HX := Lib.hid (fun (W : World) (hW : Grown w W) => (by have := HCL W hW.below i hi 7 _ rfl; rwa [hx] at this : W.cell? ⟨bl, offl + i * 8 + 7, none⟩ = some (.int .i64 x)))
  have HY := Lib.hid (fun (W : World) (hW : Grown w W) => (by have := HCL W hW.below j hj 7 _ rfl; rwa [hy] at this : W.cell? ⟨bl, offl + j * 8 + 7, none⟩ = some (.int .i64 y)))
  have HB := Lib.hid (fun (W : World) (hW : Grown w W) => (by rw [Below.cell hW.below hb]; exact hB : W.cell? ⟨bb, 0, none⟩ = some (.slice (some ⟨bl, offl, none⟩) l.length ca)))
  rw [hx, hy] at hck
  have CC := Lib.hid cmp_grown
  have CX := Lib.hid (cmp_grown x y)
  have CY := Lib.hid (cmp_grown (i : Int) (j : Int))
  rw [hck]
  obtain ⟨r1, hr1⟩ : ∃ r1, Lib.compareInt x y = r1 := ⟨_, rfl⟩
  obtain ⟨r2, hr2⟩ : ∃ r2, Lib.compareInt (i : Int) (j : Int) = r2 := ⟨_, rfl⟩
  rw [hr1] at CX ⊢
  rw [hr2] at CY ⊢
  clear hx hy HCL hR hB hck hr1 hr2 CC
  go_enter Try.func51, Try.ntmps51
  have hS1 : (fun W : World => Grown w W) w.drew := (Grown.refl w).drew
  go_wp2_with fail
  refine wp_region_held_drew (S := fun W : World => Grown w W) (by kernel_rfl) hS1 (fun hHeld => ?_)
  clear hHeld
  generalize w.drew = wzra at *
  refine wpAnyH_take (i := 0) (oi := ⟨some 6, _, _, _, _, _⟩) (v := ?vra1) rfl (by kernel_rfl) (by kernel_rfl) (by kernel_rfl) (fun _ _ _ h => h) (Or.inl ⟨by kernel_rfl, ?hyra1⟩) (by assumption) ?restra1
  case hyra1 => (intro W hSw; have gq := HB.out W hSw; (try dsimp only at hSw); go_simp; try with_reducible rfl)
  case' restra1 => try simp only [Act.put, List.setIfInBounds_toArray, List.set_cons_zero, List.set_cons_succ]
  refine wpAnyH_take (i := 1) (oi := ⟨some 7, _, _, _, _, _⟩) (v := ?vra2) rfl (by kernel_rfl) (by kernel_rfl) (by kernel_rfl) (fun _ _ _ h => h) (Or.inl ⟨by kernel_rfl, ?hyra2⟩) (by assumption) ?restra2
  case hyra2 => (intro W hSw; (try dsimp only at hSw); go_simp; try with_reducible rfl)
  case' restra2 => try simp only [Act.put, List.setIfInBounds_toArray, List.set_cons_zero, List.set_cons_succ]
  refine wpAnyH_take (i := 2) (oi := ⟨some 8, _, _, _, _, _⟩) (v := ?vra3) rfl (by kernel_rfl) (by kernel_rfl) (by kernel_rfl) (fun _ _ _ h => h) (Or.inl ⟨by kernel_rfl, ?hyra3⟩) (by assumption) ?restra3
  case hyra3 => (intro W hSw; (try dsimp only at hSw); go_simp; try with_reducible rfl)
  case' restra3 => try simp only [Act.put, List.setIfInBounds_toArray, List.set_cons_zero, List.set_cons_succ]
  refine wpAnyH_take (i := 3) (oi := ⟨some 9, _, _, _, _, _⟩) (v := ?vra4) rfl (by kernel_rfl) (by kernel_rfl) (by kernel_rfl) (fun _ _ _ h => h) (Or.inl ⟨by kernel_rfl, ?hyra4⟩) (by assumption) ?restra4
  case hyra4 => (intro W hSw; (try dsimp only at hSw); go_simp; try with_reducible rfl)
  case' restra4 => try simp only [Act.put, List.setIfInBounds_toArray, List.set_cons_zero, List.set_cons_succ]
  refine wpAnyH_take (i := 4) (oi := ⟨some 10, _, _, _, _, _⟩) (v := ?vra5) rfl (by kernel_rfl) (by kernel_rfl) (by kernel_rfl) (fun _ _ _ h => h) (Or.inl ⟨by kernel_rfl, ?hyra5⟩) (by assumption) ?restra5
  case hyra5 => (intro W hSw; have gq := HX.out W hSw; (try dsimp only at hSw); go_simp; try with_reducible rfl)
  case' restra5 => try simp only [Act.put, List.setIfInBounds_toArray, List.set_cons_zero, List.set_cons_succ]
  refine wpAnyH_take (i := 5) (oi := ⟨some 11, _, _, _, _, _⟩) (v := ?vra6) rfl (by kernel_rfl) (by kernel_rfl) (by kernel_rfl) (fun _ _ _ h => h) (Or.inl ⟨by kernel_rfl, ?hyra6⟩) (by assumption) ?restra6
  case hyra6 => (intro W hSw; have gq := HB.out W hSw; (try dsimp only at hSw); go_simp; try with_reducible rfl)
  case' restra6 => try simp only [Act.put, List.setIfInBounds_toArray, List.set_cons_zero, List.set_cons_succ]
  refine wpAnyH_take (i := 6) (oi := ⟨some 12, _, _, _, _, _⟩) (v := ?vra7) rfl (by kernel_rfl) (by kernel_rfl) (by kernel_rfl) (fun _ _ _ h => h) (Or.inl ⟨by kernel_rfl, ?hyra7⟩) (by assumption) ?restra7
  case hyra7 => (intro W hSw; (try dsimp only at hSw); go_simp; try with_reducible rfl)
  case' restra7 => try simp only [Act.put, List.setIfInBounds_toArray, List.set_cons_zero, List.set_cons_succ]
  refine wpAnyH_take (i := 7) (oi := ⟨some 13, _, _, _, _, _⟩) (v := ?vra8) rfl (by kernel_rfl) (by kernel_rfl) (by kernel_rfl) (fun _ _ _ h => h) (Or.inl ⟨by kernel_rfl, ?hyra8⟩) (by assumption) ?restra8
  case hyra8 => (intro W hSw; (try dsimp only at hSw); go_simp; try with_reducible rfl)
  case' restra8 => try simp only [Act.put, List.setIfInBounds_toArray, List.set_cons_zero, List.set_cons_succ]
  refine wpAnyH_take (i := 8) (oi := ⟨some 14, _, _, _, _, _⟩) (v := ?vra9) rfl (by kernel_rfl) (by kernel_rfl) (by kernel_rfl) (fun _ _ _ h => h) (Or.inl ⟨by kernel_rfl, ?hyra9⟩) (by assumption) ?restra9
  case hyra9 => (intro W hSw; (try dsimp only at hSw); go_simp; try with_reducible rfl)
  case' restra9 => try simp only [Act.put, List.setIfInBounds_toArray, List.set_cons_zero, List.set_cons_succ]
  refine wpAnyH_take (i := 9) (oi := ⟨some 15, _, _, _, _, _⟩) (v := ?vra10) rfl (by kernel_rfl) (by kernel_rfl) (by kernel_rfl) (fun _ _ _ h => h) (Or.inl ⟨by kernel_rfl, ?hyra10⟩) (by assumption) ?restra10
  case hyra10 => (intro W hSw; have gq := HY.out W hSw; (try dsimp only at hSw); go_simp; try with_reducible rfl)
  case' restra10 => try simp only [Act.put, List.setIfInBounds_toArray, List.set_cons_zero, List.set_cons_succ]
  refine wpAnyH_take (i := 11) (oi := ⟨some 17, _, _, _, _, _⟩) (v := ?vra11) rfl (by kernel_rfl) (by kernel_rfl) (by kernel_rfl) (fun _ _ _ h => h) (Or.inl ⟨by kernel_rfl, ?hyra11⟩) (by assumption) ?restra11
  case hyra11 => (intro W hSw; (try dsimp only at hSw); go_simp; try with_reducible rfl)
  case' restra11 => try simp only [Act.put, List.setIfInBounds_toArray, List.set_cons_zero, List.set_cons_succ]
  refine wpAnyH_take (i := 12) (oi := ⟨some 18, _, _, _, _, _⟩) (v := ?vra12) rfl (by kernel_rfl) (by kernel_rfl) (by kernel_rfl) (fun _ _ _ h => h) (Or.inl ⟨by kernel_rfl, ?hyra12⟩) (by assumption) ?restra12
  case hyra12 => (intro W hSw; (try dsimp only at hSw); go_simp; try with_reducible rfl)
  case' restra12 => try simp only [Act.put, List.setIfInBounds_toArray, List.set_cons_zero, List.set_cons_succ]
  refine wpAnyH_ready (rs := [10]) (by kernel_rfl) (by simp) ?_
  refine AllReadyH.cons (o := ⟨some 16, _, _, _, _, _⟩) rfl (fun K hK => ?_) AllReadyH.nil
  go_simp
  go_at_call 53
  refine (CX.out wzra).mono ?_
  rintro e Wra1 ⟨rfl, hbWra1⟩
  have hSWra1 := hS1.trans (hbWra1.mono hS1.size)
  try clear hS1
  clear hbWra1
  go_wp2_with fail
  refine hK.out _ _ hSWra1 (fun hHeld => ?_)
  clear hK hHeld K
  try simp only [Act.put, List.setIfInBounds_toArray, List.set_cons_zero, List.set_cons_succ]
  refine wpAnyH_ready (rs := [13]) (by kernel_rfl) (by simp) ?_
  refine AllReadyH.cons (o := ⟨some 19, _, _, _, _, _⟩) rfl (fun K hK => ?_) AllReadyH.nil
  go_simp
  go_at_call 53
  refine (CY.out Wra1).mono ?_
  rintro e Wra2 ⟨rfl, hbWra2⟩
  have hSWra2 := hSWra1.trans (hbWra2.mono hSWra1.size)
  try clear hSWra1
  clear hbWra2
  go_wp2_with fail
  refine hK.out _ _ hSWra2 (fun hHeld => ?_)
  clear hK hHeld K
  try simp only [Act.put, List.setIfInBounds_toArray, List.set_cons_zero, List.set_cons_succ]
  refine wpAnyH_ready (rs := [14]) (by kernel_rfl) (by simp) ?_
  refine AllReadyH.cons (o := ⟨some 20, _, _, _, _, _⟩) rfl (fun K hK => ?_) AllReadyH.nil
  go_simp
  have htwo := Two.made Wra2 r1 r2
  have hSWra3 := hSWra2.alloc hSWra2.size (.cells #[.int .i64 r1, .int .i64 r2] 3)
  refine hK.out _ _ hSWra3 (fun hHeld => ?_)
  clear hK hHeld K
  try clear hSWra2
  try simp only [Act.put, List.setIfInBounds_toArray, List.set_cons_zero, List.set_cons_succ]
  generalize (Wra2.alloc (.cells #[.int .i64 r1, .int .i64 r2] 3)) = Wra3 at htwo hSWra3 ⊢
  generalize Value.slice (some ⟨Wra2.heap.size, 0, none⟩) 2 2 = vt at htwo ⊢
  refine wpAnyH_ready (rs := [15]) (by kernel_rfl) (by simp) ?_
  refine AllReadyH.cons (o := ⟨some 21, _, _, _, _, _⟩) rfl (fun K hK => ?_) AllReadyH.nil
  have cOr := or_two htwo
  clear htwo
  go_simp
  go_at_call 52
  refine (cOr).mono ?_
  rintro e Wra4 ⟨rfl, hbWra4⟩
  have hSWra4 := hSWra3.trans (hbWra4.mono hSWra3.size)
  try clear hSWra3
  clear hbWra4
  go_wp2_with fail
  refine hK.out _ _ hSWra4 (fun hHeld => ?_)
  clear hK hHeld K
  try simp only [Act.put, List.setIfInBounds_toArray, List.set_cons_zero, List.set_cons_succ]
  refine wpAnyH_take (i := 16) (oi := ⟨some 5, _, _, _, _, _⟩) (v := ?vra13) rfl (by kernel_rfl) (by kernel_rfl) (by kernel_rfl) (fun _ _ _ h => h) (Or.inl ⟨by kernel_rfl, ?hyra13⟩) (by assumption) ?restra13
  case hyra13 => (intro W hSw; (try dsimp only at hSw); go_simp; try with_reducible rfl)
  case' restra13 => try simp only [Act.put, List.setIfInBounds_toArray, List.set_cons_zero, List.set_cons_succ]
  refine wpAnyH_done (by kernel_rfl) ?_ _
  go_wp2
  go_ret
  exact ⟨rfl, hSWra4⟩
end Go.Proofs
/- Plain: the row of all indices by cost, and a feature's part of it. -/
set_option linter.unusedVariables false
set_option linter.unusedSimpArgs false
namespace Go.Proofs
open Go.RowKit Go.Proofs.Mp Go.Proofs.Uf

def srt (l : List Cand) (i j : Int) : Prop := coI l i < coI l j ∨ (coI l i = coI l j ∧ i < j)
theorem srt_trans {l : List Cand} {a b c : Int} (h : srt l a b) (g : srt l b c) : srt l a c := by unfold srt at *; omega
theorem srt_irrefl (l : List Cand) (a : Int) : ¬ srt l a a := by unfold srt; omega
theorem dropWhile_head {p : Int → Bool} : ∀ {r : List Int} {h : Int} {t : List Int}, r.dropWhile p = h :: t → p h = false
  | [], h, t, e => by simp at e
  | y :: r, h, t, e => by
    rw [List.dropWhile_cons] at e
    split at e
    · exact dropWhile_head e
    · rename_i hy
      injection e with e1 e2
      subst e1
      simpa using hy
theorem insK_eq (l : List Cand) (acc : List Int) (x : Int) : insK l acc x = (acc.reverse.dropWhile fun j => decide (coI l x < coI l j)).reverse ++ x :: (acc.reverse.takeWhile fun j => decide (coI l x < coI l j)).reverse := by
  unfold insK posK
  generalize hp : (fun j => decide (coI l x < coI l j)) = p
  have e : acc = (acc.reverse.dropWhile p).reverse ++ (acc.reverse.takeWhile p).reverse := by
    rw [← List.reverse_append, List.takeWhile_append_dropWhile, List.reverse_reverse]
  have hl : (acc.reverse.dropWhile p).length = (acc.reverse.dropWhile p).reverse.length := by simp
  rw [hl]
  have e1 : acc.take (acc.reverse.dropWhile p).reverse.length = (acc.reverse.dropWhile p).reverse := by
    conv => lhs; arg 2; rw [e]
    rw [List.take_left]
  have e2 : acc.drop (acc.reverse.dropWhile p).reverse.length = (acc.reverse.takeWhile p).reverse := by
    conv => lhs; arg 2; rw [e]
    rw [List.drop_left]
  rw [e1, e2]
theorem takeWhile_all {p : Int → Bool} : ∀ {r : List Int} {z : Int}, z ∈ r.takeWhile p → p z = true
  | [], z, h => by simp at h
  | y :: r, z, h => by
    rw [List.takeWhile_cons] at h
    split at h
    · rename_i hy
      rcases List.mem_cons.1 h with rfl | h
      · exact hy
      · exact takeWhile_all h
    · simp at h
theorem insK_sorted {l : List Cand} {acc : List Int} {x : Int} (h : acc.Pairwise (srt l)) (hx : ∀ z ∈ acc, z < x) : (insK l acc x).Pairwise (srt l) := by
  rw [insK_eq]
  generalize hp : (fun j => decide (coI l x < coI l j)) = p
  have hr : acc.reverse.Pairwise (fun a b => srt l b a) := List.pairwise_reverse.2 (by simpa using h)
  have hsplit := List.takeWhile_append_dropWhile (p := p) (l := acc.reverse)
  rw [← hsplit, List.pairwise_append] at hr
  obtain ⟨hT, hD, hc⟩ := hr
  rw [List.pairwise_append]
  refine ⟨List.pairwise_reverse.2 (by simpa using hD), List.pairwise_cons.2 ⟨?_, List.pairwise_reverse.2 (by simpa using hT)⟩, ?_⟩
  · intro z hz
    have := takeWhile_all (List.mem_reverse.1 hz)
    rw [← hp] at this
    exact .inl (by simpa using this)
  · intro a ha b hb
    rw [List.mem_reverse] at ha
    have hax : a < x := hx a (by
      have : a ∈ acc.reverse := by rw [← hsplit]; exact List.mem_append_right _ ha
      simpa using this)
    rcases List.mem_cons.1 hb with rfl | hb
    · rcases hdd : acc.reverse.dropWhile p with _ | ⟨hh, t⟩
      · rw [hdd] at ha; simp at ha
      · have h0 := dropWhile_head hdd
        rw [← hp] at h0
        have h1 : ¬ coI l b < coI l hh := by simpa using h0
        rw [hdd] at ha hD
        rcases List.mem_cons.1 ha with rfl | ha
        · unfold srt; omega
        · have := (List.pairwise_cons.1 hD).1 a ha
          unfold srt at *
          omega
    · exact hc b (List.mem_reverse.1 hb) a ha
theorem ordK_sorted (l : List Cand) (f : Int) : ∀ k, (ordK l f k).Pairwise (srt l)
  | 0 => List.Pairwise.nil
  | k + 1 => by
    unfold ordK
    split
    · refine insK_sorted (ordK_sorted l f k) fun z hz => ?_
      obtain ⟨j, h1, rfl, _⟩ := (ordK_mem l f z k).1 hz
      omega
    · exact ordK_sorted l f k
theorem srt_unique {l : List Cand} : ∀ {a b : List Int}, a.Pairwise (srt l) → b.Pairwise (srt l) → (∀ x, x ∈ a ↔ x ∈ b) → a = b
  | [], [], _, _, _ => rfl
  | [], s :: bs, _, _, h => absurd ((h s).2 List.mem_cons_self) (by simp)
  | r :: rs, [], _, _, h => absurd ((h r).1 List.mem_cons_self) (by simp)
  | r :: rs, s :: bs, ha, hb, h => by
    obtain ⟨ha1, ha2⟩ := List.pairwise_cons.1 ha
    obtain ⟨hb1, hb2⟩ := List.pairwise_cons.1 hb
    have e : r = s := by
      rcases List.mem_cons.1 ((h r).1 List.mem_cons_self) with e | m1
      · exact e
      · rcases List.mem_cons.1 ((h s).2 List.mem_cons_self) with e | m2
        · exact e.symm
        · exact absurd (srt_trans (hb1 r m1) (ha1 s m2)) (srt_irrefl l s)
    subst e
    congr 1
    refine srt_unique ha2 hb2 fun x => ?_
    constructor
    · intro hx
      rcases List.mem_cons.1 ((h x).1 (List.mem_cons_of_mem _ hx)) with rfl | m
      · exact absurd (ha1 x hx) (srt_irrefl l x)
      · exact m
    · intro hx
      rcases List.mem_cons.1 ((h x).2 (List.mem_cons_of_mem _ hx)) with rfl | m
      · exact absurd (hb1 x hx) (srt_irrefl l x)
      · exact m
/-- p is the row of all indices, by cost -/
def AllBy (l : List Cand) (p : List Int) : Prop := p.Pairwise (srt l) ∧ ∀ z, z ∈ p ↔ ∃ j : Nat, j < l.length ∧ z = (j : Int)
def ofF (l : List Cand) (f : Int) (p : List Int) : List Int := p.filter fun z => decide (l[z.toNat]!.f = f)
theorem ordL_filter {l : List Cand} {p : List Int} (h : AllBy l p) (f : Int) : ordL l f = ofF l f p := by
  refine srt_unique (ordK_sorted l f _) (h.1.filter _) fun z => ?_
  unfold ofF
  rw [List.mem_filter, h.2 z]
  unfold ordL
  rw [ordK_mem]
  constructor
  · rintro ⟨j, h1, rfl, h3⟩
    exact ⟨⟨j, h1, rfl⟩, by simpa using h3⟩
  · rintro ⟨⟨j, h1, rfl⟩, h3⟩
    exact ⟨j, h1, rfl, by simpa using h3⟩
theorem ofF_take {l : List Cand} {f : Int} {p : List Int} {k : Nat} (h : k < p.length) : ofF l f (p.take (k + 1)) = if l[p[k]!.toNat]!.f = f then ofF l f (p.take k) ++ [p[k]!] else ofF l f (p.take k) := by
  unfold ofF
  rw [List.take_succ_eq_append_getElem h, List.filter_append, getElem!_pos p k h]
  split
  · rename_i hf
    rw [List.filter_cons_of_pos (by simpa using hf)]; rfl
  · rename_i hf
    rw [List.filter_cons_of_neg (by simpa using hf)]; simp
end Go.Proofs
/- The sort of all indices by cost. -/
set_option linter.unusedVariables false
set_option linter.unusedSimpArgs false
namespace Go.Proofs
open Go.RowKit Go.Proofs.Mp Go.Proofs.Uf Go.Sort Go.Lib

abbrev Ix (n : Nat) : Type := {k : Nat // k < n}
def encX (n : Nat) (x : Ix n) : Value := .int .i64 (x.1 : Int)
theorem compareInt_neg (a b : Int) : Lib.compareInt a b < 0 ↔ a < b := by
  unfold Lib.compareInt
  split
  · omega
  · split <;> omega
theorem compareInt_zero (a b : Int) : Lib.compareInt a b = 0 ↔ a = b := by
  unfold Lib.compareInt
  split
  · omega
  · split <;> omega
theorem cmpK_lt (l : List Cand) (i j : Nat) : cmpK l i j < 0 ↔ srt l (i : Int) (j : Int) := by
  unfold cmpK orI srt coI
  simp only [Int.toNat_natCast]
  have h1 := compareInt_neg l[i]!.co l[j]!.co
  have h2 := compareInt_zero l[i]!.co l[j]!.co
  have h3 := compareInt_neg (i : Int) (j : Int)
  split
  · rename_i h; rw [h1]; omega
  · rename_i h; rw [h3]; omega
theorem ltK {n : Nat} (l : List Cand) (x y : Ix n) : ltOf (fun x y : Ix n => cmpK l x.1 y.1) x y = true ↔ srt l (x.1 : Int) (y.1 : Int) := by
  unfold ltOf; rw [decide_eq_true_iff]; exact cmpK_lt l x.1 y.1
theorem ltK' {n : Nat} (l : List Cand) (x y : Ix n) : ltOf (fun x y : Ix n => cmpK l x.1 y.1) x y = false ↔ ¬ srt l (x.1 : Int) (y.1 : Int) := by
  rw [← Bool.not_eq_true, ltK]
theorem swoK {n : Nat} (l : List Cand) : SWO (ltOf fun x y : Ix n => cmpK l x.1 y.1) where
  irrefl x := (ltK' l x x).2 (srt_irrefl l _)
  trans x y z h1 h2 := (ltK l x z).2 (srt_trans ((ltK l x y).1 h1) ((ltK l y z).1 h2))
  ntrans x y z h1 h2 := by
    rw [ltK'] at *
    unfold srt at *
    omega
theorem sortWorld_below {α : Type} [Inhabited α] {enc : α → Value} {w : World} {g n : Nat} {d : Array α} {os : Array Obj} (hb : g < w.heap.size) : RowKit.Below g w (sortWorld enc w g 0 n d os) := by
  unfold sortWorld
  refine ⟨rfl, rfl, rfl, by simp [putRow, mapBlock], fun k hk => ?_⟩
  rw [heap_grow_old _ _ (by simp [putRow, mapBlock]; show k < w.heap.size; omega)]
  simp only [putRow, mapBlock, Array.getElem?_modify]
  rw [if_neg (by omega)]
  rfl
theorem Try.laysSort1 : Go.Proofs.SlLaysF.n6 Try.prog Try.laysSort_ren := { Try.laysSort with a24 := Try.isAgg3, z24 := Try.sizeOf3 }

set_option maxHeartbeats 1000000 in
theorem sort_idx (l : List Cand) (w0 w : World) (bb ca g cap : Nat) (A : Option Addr) (v : Value) (base : Nat) (hn : 0 < l.length) (hl : l.length ≤ 1000) (hR : Rd 8 encC w0 A l) (hb0 : Below w0.heap.size w0 w) (hg0 : w0.heap.size ≤ g) (hbg : bb < g)
    (hB : w.cell? ⟨bb, 0, none⟩ = some (.slice A l.length ca)) (hbase : base = g) (hown : OwnI 3 w base (.slice (some ⟨g, 0, none⟩) l.length cap) ((List.range l.length).map fun k : Nat => (k : Int))) :
    Calls Try.prog 50 #[.slice (some ⟨g, 0, none⟩) l.length cap, .func (.func 51) #[] #[.pointer (some ⟨bb, 0, none⟩)]] w fun e w' => e = .returned (.tuple #[]) ∧ ∃ p : List Int, AllBy l p ∧ p.length = l.length ∧ RdI w' (some ⟨g, 0, none⟩) p ∧ RowKit.Below g w w' := by
  letI : Inhabited (Ix l.length) := ⟨⟨0, hn⟩⟩
  have eg : ∀ args w, (callFunc 51 args).run Try.prog w = .ok (.enter 51 args) w := enters_of Try.func51 (by kernel_rfl) rfl
  have hlen : ((List.range l.length).map fun k : Nat => (k : Int)).length = l.length := by simp
  obtain ⟨zs, hzs⟩ : ∃ zs : Array (Ix l.length), zs = Array.ofFn (fun i : Fin l.length => (⟨i.1, i.2⟩ : Ix l.length)) := ⟨_, rfl⟩
  have hsz : zs.size = l.length := by rw [hzs]; simp
  have hget : ∀ j (hj : j < l.length), zs[j]! = ⟨j, hj⟩ := fun j hj => by
    rw [getElem!_pos zs j (by omega)]
    simp [hzs]
  have hgw : g < w.heap.size := by
    obtain ⟨g', _, he, _, hlt, _⟩ := Mp.OwnI.at_ hown (k := 0) (by rw [hlen]; exact hn)
    injection he with he
    injection he with he
    injection he with he
    omega
  have hH : Holds (encX l.length) w g 0 zs := by
    intro j hj
    obtain ⟨g', _, he, _, hlt, hc, hf, _⟩ := Mp.OwnI.at_ hown (k := j) (by rw [hlen]; omega)
    injection he with he
    injection he with he
    injection he with he
    subst he
    rw [Nat.zero_add, hget j (by omega)]
    refine ⟨?_, hf⟩
    rw [hc]
    show some (Value.int .i64 _) = some (.int .i64 (j : Int))
    rw [getElem!_pos _ j (by rw [hlen]; omega)]
    simp
  have hcmp : CmpLays1 Try.prog 51 #[.pointer (some ⟨bb, 0, none⟩)] (encX l.length) (fun x y : Ix l.length => cmpK l x.1 y.1) g 0 zs.size w := by
    intro m os dk _ x y
    have hbel : RowKit.Below g w (sortWorld (encX l.length) w g 0 m dk os) := sortWorld_below hgw
    have hbb : Below w0.heap.size w0 (sortWorld (encX l.length) w g 0 m dk os) := hb0.trans (hbel.mono hg0)
    refine (closure51 x.1 y.1 l _ bb ca A x.2 y.2 (by rw [Below.cell hbel hbg]; exact hB) (Nat.lt_of_lt_of_le (Nat.lt_trans hbg hgw) hbel.size) (hR.below hbb)).mono ?_
    rintro e w' ⟨he, q, os', rfl⟩
    exact ⟨he, q, os', rfl⟩
  have hcon := Any.slices_SortFunc Try.laysSort1 (encX l.length) (fun _ => rfl) (fun x y => cmpK l x.1 y.1) (swoK l) 51 #[.pointer (some ⟨bb, 0, none⟩)] g 0 cap zs w eg hcmp hH hgw (by omega)
  change Calls Try.prog 50 _ _ _ at hcon
  rw [hsz] at hcon
  refine hcon.mono ?_
  rintro e w' ⟨he, d', n, os, hp, hs, rfl⟩
  obtain ⟨hp1, hp2, hp3⟩ := hp
  have hd : d'.size = l.length := by rw [hp1, hsz]
  have hxx : ∀ (q : Array (Ix l.length)) N, N = q.size → (q.extract 0 N).toList = q.toList := by rintro q _ rfl; simp
  have hx := hxx d' _ hd.symm
  have hy := hxx zs _ hsz.symm
  rw [hx, hy] at hp3
  have h1 : Holds (encX l.length) (sortWorld (encX l.length) w g 0 n d' os) g 0 d' := by
    unfold sortWorld
    exact holds_grow _ _ _ _ _ _ (by simp [putRow, mapBlock]; exact hgw) (holds_putRow _ _ _ _ zs d' (holds_ahead _ _ _ _ _ _ hH) (by rw [hd, hsz]))
  have hgs : g < (sortWorld (encX l.length) w g 0 n d' os).heap.size := Nat.lt_of_lt_of_le hgw (sortWorld_below (os := os) (n := n) (d := d') (enc := encX l.length) hgw).size
  refine ⟨he, d'.toList.map (fun x => (x.1 : Int)), ⟨?_, ?_⟩, by simpa using hd, ?_, sortWorld_below hgw⟩
  · have hnd : d'.toList.Nodup := by
      rw [hp3.nodup_iff]
      show List.Pairwise (· ≠ ·) zs.toList
      rw [List.pairwise_iff_getElem]
      intro i j hi hj hij e
      simp only [Array.getElem_toList] at e
      have h2 := hget i (by simpa [hsz] using hi)
      have h3 := hget j (by simpa [hsz] using hj)
      rw [getElem!_pos zs i (by simpa using hi)] at h2
      rw [getElem!_pos zs j (by simpa using hj)] at h3
      rw [h2, h3] at e
      injection e with e
      omega
    rw [List.pairwise_map, List.pairwise_iff_getElem]
    intro i j hi hj hij
    have h2 := hs i j (Nat.zero_le _) hij (by simpa [hd] using hj)
    rw [ltK'] at h2
    have ei : d'.toList[i] = d'[i]! := by
      have : i < d'.size := by simpa using hi
      simp [this]
    have ej : d'.toList[j] = d'[j]! := by
      have : j < d'.size := by simpa using hj
      simp [this]
    have hne : d'.toList[i] ≠ d'.toList[j] := (List.pairwise_iff_getElem.1 (show List.Pairwise (· ≠ ·) d'.toList from hnd)) i j hi hj hij
    rw [ei, ej] at hne ⊢
    have hv : (d'[i]!).1 ≠ (d'[j]!).1 := fun e => hne (Subtype.ext e)
    unfold srt at *
    omega
  · intro z
    rw [List.mem_map]
    constructor
    · rintro ⟨x, _, rfl⟩; exact ⟨x.1, x.2, rfl⟩
    · rintro ⟨j, hj, rfl⟩
      refine ⟨⟨j, hj⟩, hp3.mem_iff.2 ?_, rfl⟩
      rw [hzs, Array.mem_toList_iff, Array.mem_ofFn]
      exact ⟨⟨j, hj⟩, rfl⟩
  · refine .inr ⟨g, 0, rfl, hgs, fun j hj i u hu => ?_⟩
    have hj' : j < d'.size := by simpa using hj
    have hi : i = 0 := by
      have := (List.getElem?_eq_some_iff.1 hu).1
      rw [encI_len] at this; omega
    subst hi
    have h2 := (h1 j hj').1
    rw [Nat.mul_one]
    simp only [Nat.zero_add, Nat.add_zero] at h2 ⊢
    rw [h2]
    have e1 : (d'.toList.map (fun x => (x.1 : Int)))[j]! = (d'[j]!.1 : Int) := by
      rw [getElem!_pos _ j hj]
      simp [hj']
    rw [e1] at hu
    exact hu
end Go.Proofs
/- A map from integers to rows of the call's own, no two of which lie in one block. -/
set_option linter.unusedVariables false
set_option linter.unusedSimpArgs false
namespace Go.Proofs
open Go.RowKit Go.Proofs.Mp Go.Proofs.Uf Go.Maps

abbrev nilS : Value := .slice none 0 0
def rowAt (V : Int → Option Value) (f : Int) : Value := (V f).getD nilS
/-- the rows of all features but 'no' -/
def RowsBut (w : World) (base : Nat) (V : Int → Option Value) (g : Int → List Int) (no : Int → Prop) : Prop :=
  (∀ f, ¬ no f → OwnI 3 w base (rowAt V f) (g f)) ∧ ∀ f f' j, ¬ no f → ¬ no f' → f ≠ f' → (rowAt V f).ownBlock = some j → (rowAt V f').ownBlock ≠ some j
theorem RowsBut.grown {w w' : World} {base : Nat} {V : Int → Option Value} {g : Int → List Int} {no : Int → Prop} (h : RowsBut w base V g no) {row : Option Nat} (hg : w.grownBy w' row) (hne : ∀ f, ¬ no f → (rowAt V f).ownBlock = none ∨ (rowAt V f).ownBlock ≠ row) : RowsBut w' base V g no :=
  ⟨fun f hf => World.ownsRow.kept (h.1 f hf) hg (hne f hf), h.2⟩
def GP (w : World) (B base N : Nat) (g : Int → List Int) : Prop :=
  ∃ V, MapV Try.prog 3 w B N V ∧ B < base ∧ base ≤ w.heap.size ∧ RowsBut w base V g (fun _ => False)
def GL (w : World) (B base N : Nat) (g : Int → List Int) (f : Int) (v : Value) : Prop :=
  ∃ V, MapV Try.prog 3 w B N V ∧ B < base ∧ base ≤ w.heap.size ∧ RowsBut w base V g (fun _ => False) ∧ rowAt V f = v
def GA (w : World) (B base N : Nat) (g : Int → List Int) (f : Int) (v : Value) (ys : List Int) : Prop :=
  ∃ V, MapV Try.prog 3 w B N V ∧ B < base ∧ base ≤ w.heap.size ∧ RowsBut w base V g (fun z => z = f) ∧ OwnI 3 w base v ys ∧ ∀ f' j, f' ≠ f → v.ownBlock = some j → (rowAt V f').ownBlock ≠ some j
theorem row_none (v : Value) : v.ownBlock = none ∨ v.ownBlock ≠ none := by cases v.ownBlock <;> simp
theorem GP.alloc {w : World} {B base N : Nat} {g : Int → List Int} (h : GP w B base N g) (o : Obj) : GP (w.alloc o) B base N g := by
  obtain ⟨V, h1, h2, h3, h4⟩ := h
  exact ⟨V, h1.kept (World.grownBy_alloc w o none) (by simp), h2, Nat.le_trans h3 (by simp), h4.grown (World.grownBy_alloc w o none) (fun f _ => row_none _)⟩
theorem GP.drew {w : World} {B base N : Nat} {g : Int → List Int} (h : GP w B base N g) : GP w.drew B base N g := by
  obtain ⟨V, h1, h2, h3, h4⟩ := h
  exact ⟨V, h1.kept (grown_drew w none) (by simp), h2, h3, h4.grown (grown_drew w none) (fun f _ => row_none _)⟩
theorem GL.alloc {w : World} {B base N : Nat} {g : Int → List Int} {f : Int} {v : Value} (h : GL w B base N g f v) (o : Obj) : GL (w.alloc o) B base N g f v := by
  obtain ⟨V, h1, h2, h3, h4, h5⟩ := h
  exact ⟨V, h1.kept (World.grownBy_alloc w o none) (by simp), h2, Nat.le_trans h3 (by simp), h4.grown (World.grownBy_alloc w o none) (fun f _ => row_none _), h5⟩
theorem Try.zero23 (w : World) : (zeroValue 23).run Try.prog w = .ok nilS w := by kernel_rfl

section
variable {w : World} {B base N : Nat} {g : Int → List Int} {ops : Array Oper} {o : Oper} {a : Act} {K : Act → World → Prop} {Q : Exit → Act → World → Prop} {E : Prop}
theorem GP.stepLook (h : GP w B base N g) (hg : o.guard = none) (m x : Operand) (hop : o.op = Op.lookup 57 m x false) (hm : a.eval m = .map (some B)) (n : Int) (hx : a.eval x = .int .i64 n) (hwf : (Lit.int .i64 n).wf = true)
    (hK : ∀ v, GL w B base N g n v → K (a.put o.dst v) w) : if Region.wanted o (yielded ops a.tmps) = true then Oper.wp Try.prog o a w K Q else E := by
  have hw : Region.wanted o (yielded ops a.tmps) = true := by simp [Region.wanted, hg]
  rw [if_pos hw]
  obtain ⟨V, h1, h2, h3, h4⟩ := h
  have hrun := h1.exec (o := o) (a := a) m x hop Try.underlying57 Try.underlying3 (Try.zero23 _) hm n hx hwf (v := rowAt V n) rfl
  unfold Oper.wp
  simp [hrun, Result.andThen]
  exact hK _ ⟨V, h1, h2, h3, h4, rfl⟩
/-- a slice of one integer, just laid -/
def One (w : World) (u : Value) (y : Int) : Prop := ∃ b, u = .slice (some ⟨b, 0, none⟩) 1 1 ∧ w.cell? ⟨b, 0, none⟩ = some (.int .i64 y)
theorem One.made (w : World) (y : Int) : One (w.alloc (.cells #[.int .i64 y] 3)) (.slice (some ⟨w.heap.size, 0, none⟩) 1 1) y := ⟨_, rfl, by unfold World.cell?; rw [heap_alloc_last]; rfl⟩
theorem GL.stepApp {f : Int} {v u : Value} {y : Int} (h : GL w B base N g f v) (hu : One w u y) (hlen : (g f).length ≤ 1000) (hgd : o.guard = none) (s x : Operand)
    (ho : o.op = .call { callee := .builtin .append, args := #[s, x], argTypes := #[23, 23] }) (hs : a.eval s = v) (hx : a.eval x = u)
    (hK : ∀ v' w', GA w' B base N g f v' (g f ++ [y]) → Below base w w' → K (a.put o.dst v') w') : if Region.wanted o (yielded ops a.tmps) = true then Oper.wp Try.prog o a w K Q else E := by
  have hw : Region.wanted o (yielded ops a.tmps) = true := by simp [Region.wanted, hgd]
  rw [if_pos hw]
  obtain ⟨V, h1, h2, h3, h4, rfl⟩ := h
  obtain ⟨b, rfl, hc⟩ := hu
  obtain ⟨i0, hi, hz0, hz1, hz2⟩ := Mp.info_parts Try.infoI
  have hown := h4.1 f (by simp)
  obtain ⟨v', w', hr, r1, r2, _, r4⟩ := run_append_own_at (P := Try.prog) w base 23 o.type 3 i0 (.int .i64 0) 1 8 Try.underlying23 hi hz0 hz1 hz2 rfl (by decide) _ _ _ hown ⟨b, 0, none⟩ 1 1 [.int .i64 y] rfl
    (by
      intro j z hj
      rcases j with _ | j
      · simp at hj; subst hj
        rw [show (⟨b, 0, none⟩ : Addr).add 0 = ⟨b, 0, none⟩ by unfold Addr.add; simp]
        exact hc
      · simp at hj) (by intro z hz; simp at hz; subst hz; rfl) (by unfold maxLen; omega) (by omega) h3
  have hbel : Below base w w' := (Below.refl _ _).grown r2 h3 (fun k hk => (World.ownsRow.lt hown k hk).1)
  have hne : ∀ f', f' ≠ f → (rowAt V f').ownBlock = none ∨ (rowAt V f').ownBlock ≠ (rowAt V f).ownBlock := by
    intro f' hf'
    rcases hb : (rowAt V f').ownBlock with _ | j
    · exact .inl rfl
    · right
      intro e
      exact h4.2 f f' j (by simp) (by simp) (Ne.symm hf') e.symm hb
  unfold Oper.wp execOp
  simp only [ho, resolve, invoke, builtin, Sem.run_bind, Sem.run_pure, Result.andThen_ok, List.map_toArray, List.map_cons, List.map_nil, hs, hx, hr]
  refine hK _ _ ⟨V, h1.belowN hbel h2, h2, Nat.le_trans h3 hbel.size, ⟨fun f' hf' => World.ownsRow.kept (h4.1 f' (by simp)) r2 (hne f' hf'), fun f1 f2 j q1 q2 q3 => h4.2 f1 f2 j (by simp) (by simp) q3⟩, ?_, ?_⟩ hbel
  · show w'.ownsRow base 3 1 v' (g f ++ [y]).length ((g f ++ [y]).flatMap Mp.encI)
    simpa [Mp.encI] using r1
  · intro f' j hf' hj hj'
    rcases r4 with r4 | r4
    · rw [r4] at hj
      exact h4.2 f f' j (by simp) (by simp) (Ne.symm hf') hj hj'
    · rw [r4] at hj
      injection hj with hj
      have := (World.ownsRow.lt (h4.1 f' (by simp)) j hj').2
      omega
theorem GA.stepStore {f : Int} {v : Value} {ys : List Int} (h : GA w B base N g f v ys) (hgd : o.guard = none) (m x y : Operand) (hop : o.op = Op.mapUpdate 57 m x y) (hm : a.eval m = .map (some B)) (hx : a.eval x = .int .i64 f) (hy : a.eval y = v)
    (hwf : (Lit.int .i64 f).wf = true) (hN : N ≤ 100000) (hK : ∀ w', GP w' B base (N + 1) (fun z => if z = f then ys else g z) → w.grownBy w' (some B) → K (a.put o.dst undef) w') :
    if Region.wanted o (yielded ops a.tmps) = true then Oper.wp Try.prog o a w K Q else E := by
  have hw : Region.wanted o (yielded ops a.tmps) = true := by simp [Region.wanted, hgd]
  rw [if_pos hw]
  obtain ⟨V, h1, h2, h3, h4, h5, h6⟩ := h
  refine h1.wpStore m x y hop Try.underlying57 Try.underlying3 hm f v hx hy hwf (M := N + 1) (.inr (Nat.le_refl _)) (by unfold maxLen; omega) ?_
  intro w' hM hg
  have hsame : rowAt (setV V f v) f = v := by unfold rowAt; rw [setV_same]; rfl
  have hdiff : ∀ z, z ≠ f → rowAt (setV V f v) z = rowAt V z := fun z hz => by unfold rowAt; rw [setV_ne hz]
  have hB : ∀ {z : Value} {l : List Int}, OwnI 3 w base z l → z.ownBlock = none ∨ z.ownBlock ≠ some B := by
    intro z l hz
    right; intro e
    have := (World.ownsRow.lt hz B e).1
    omega
  refine hK w' ⟨_, hM, h2, Nat.le_trans h3 hg.size, ⟨fun z _ => ?_, fun f1 f2 j _ _ q3 h1j => ?_⟩⟩ hg
  · by_cases hz : z = f
    · subst hz
      show OwnI 3 w' base _ (if z = z then ys else g z)
      rw [hsame, if_pos rfl]
      exact World.ownsRow.kept h5 hg (hB h5)
    · show OwnI 3 w' base _ (if z = f then ys else g z)
      rw [hdiff z hz, if_neg hz]
      exact World.ownsRow.kept (h4.1 z hz) hg (hB (h4.1 z hz))
  · by_cases e1 : f1 = f
    · subst e1
      rw [hsame] at h1j
      rw [hdiff f2 (Ne.symm q3)]
      exact h6 f2 j (Ne.symm q3) h1j
    · by_cases e2 : f2 = f
      · subst e2
        rw [hdiff f1 e1] at h1j
        rw [hsame]
        intro e
        exact h6 f1 j e1 e h1j
      · rw [hdiff f1 e1] at h1j
        rw [hdiff f2 e2]
        exact h4.2 f1 f2 j e1 e2 q3 h1j
end
theorem GP.made {w : World} {B base : Nat} (h : MapV Try.prog 3 w B 0 (fun _ => none)) (hB : B < base) (hb : base ≤ w.heap.size) : GP w B base 0 (fun _ => []) :=
  ⟨_, h, hB, hb, fun f _ => Own.nil _ _, fun f f' j _ _ _ h1 => by simp [rowAt, Value.ownBlock] at h1⟩
end Go.Proofs
/- The program's ordered. -/
set_option linter.unusedVariables false
set_option linter.unusedSimpArgs false
namespace Go.Proofs
open Go.RowKit Go.Proofs.Mp Go.Proofs.Uf Go.Maps

theorem sort_all (l : List Cand) (w0 w : World) (bb ca g cap : Nat) (A : Option Addr) (hl : l.length ≤ 1000) (hR : Rd 8 encC w0 A l) (hb0 : Below w0.heap.size w0 w) (hg0 : w0.heap.size ≤ g) (hbg : bb < g)
    (hB : w.cell? ⟨bb, 0, none⟩ = some (.slice A l.length ca)) (hown : OwnI 3 w g (.slice (some ⟨g, 0, none⟩) l.length cap) ((List.range l.length).map fun k : Nat => (k : Int))) :
    Calls Try.prog 50 #[.slice (some ⟨g, 0, none⟩) l.length cap, .func (.func 51) #[] #[.pointer (some ⟨bb, 0, none⟩)]] w fun e w' => e = .returned (.tuple #[]) ∧ ∃ p : List Int, AllBy l p ∧ p.length = l.length ∧ RdI w' (some ⟨g, 0, none⟩) p ∧ RowKit.Below g w w' := by
  by_cases hn : 0 < l.length
  · exact sort_idx l w0 w bb ca g cap A (.slice none 0 0) g hn hl hR hb0 hg0 hbg hB rfl hown
  · have h0 : l.length = 0 := by omega
    have hcon := AnyF.slices_SortFunc_none Try.laysSort (some ⟨g, 0, none⟩) cap (.func (.func 51) #[] #[.pointer (some ⟨bb, 0, none⟩)]) w
    change Calls Try.prog 50 _ _ _ at hcon
    rw [h0]
    refine hcon.mono ?_
    rintro e w' ⟨he, rfl⟩
    exact ⟨he, [], ⟨List.Pairwise.nil, fun z => by simp; intro j hj; omega⟩, rfl, Rd.nil _, Below.refl _ _⟩
def idxL (n k : Nat) : List Int := (List.range n).map fun j => if j < k then (j : Int) else 0
theorem idxL_len (n k : Nat) : (idxL n k).length = n := by simp [idxL]
theorem idxL_start (n : Nat) : List.replicate n (0 : Int) = idxL n 0 := by
  apply List.ext_getElem
  · simp [idxL]
  · intro i h1 h2; simp [idxL]
theorem idxL_set {n k : Nat} (h : k < n) : (idxL n k).set k (k : Int) = idxL n (k + 1) := by
  apply List.ext_getElem
  · simp [idxL]
  · intro i h1 h2
    rw [List.getElem_set]
    simp only [idxL, List.getElem_map, List.getElem_range]
    by_cases e : k = i
    · subst e; rw [if_pos rfl, if_pos (by omega)]
    · rw [if_neg e]
      by_cases e2 : i < k
      · rw [if_pos e2, if_pos (by omega)]
      · rw [if_neg e2, if_neg (by omega)]
theorem idxL_all (n : Nat) : idxL n n = (List.range n).map fun k : Nat => (k : Int) := by
  unfold idxL
  apply List.map_congr_left
  intro j hj
  rw [if_pos (List.mem_range.1 hj)]
theorem flat_rep : ∀ n : Nat, List.replicate n (Value.int .i64 0) = (List.replicate n (0 : Int)).flatMap Mp.encI
  | 0 => rfl
  | n + 1 => by rw [List.replicate_succ, List.replicate_succ, List.flatMap_cons, flat_rep n]; rfl
theorem Try.makeI {w : World} {ops : Array Oper} {rest : List Oper} {o : Oper} {a : Act} {Q : Exit → Act → World → Prop}
    (hg : o.guard = none) (l c : Operand) (hop : o.op = Op.makeSlice 23 l c) (kl kc : IntKind) (L C : Int) (n : Nat) (hl : a.eval l = .int kl L) (hc : a.eval c = .int kc C) (hL : L = (n : Int)) (hC : C = (n : Int)) (hn : n ≤ 1000000000)
    (hK : ∀ w', OwnI 3 w' w.heap.size (.slice (some ⟨w.heap.size, 0, none⟩) n n) (List.replicate n 0) → Below w.heap.size w w' → wpList Try.prog ops Q rest (a.put o.dst (.slice (some ⟨w.heap.size, 0, none⟩) n n)) w') :
    wpList Try.prog ops Q (o :: rest) a w := by
  obtain ⟨i0, hi, hz0, hz1, hz2⟩ := Mp.info_parts Try.infoI
  refine wpList_make_full w hg l c 23 hop w.heap.size 3 i0 _ 1 Try.underlying23 hi hz0 hz1 kl kc L C n hl hc hL hC (by rw [hz2]; omega) (by unfold maxLen; omega) (Nat.le_refl _) ?_
  intro w' ho hgr
  refine hK w' ?_ ((Below.refl _ _).grown hgr (Nat.le_refl _) (fun k hk => by cases hk))
  unfold OwnI Own
  rw [List.length_replicate]
  have e : (madeCells (Value.int IntKind.i64 0).cells (n * 1)).toList = (List.replicate n (0 : Int)).flatMap Mp.encI := by
    rw [Nat.mul_one, show (Value.int IntKind.i64 0).cells = #[.int .i64 0] from rfl, toList_madeCells_one]
    exact flat_rep n
  rw [e] at ho
  exact ho
/-- all old blocks but the map's are as they were -/
def SB (w0 : World) (B : Nat) (w : World) : Prop := w0.grownBy w (some B)
theorem SB.refl (w : World) (B : Nat) : SB w B w := ⟨rfl, rfl, rfl, Nat.le_refl _, fun _ _ _ => rfl⟩
theorem SB.size {w0 w : World} {B : Nat} (h : SB w0 B w) : w0.heap.size ≤ w.heap.size := World.grownBy.size h
theorem SB.drew {w0 w : World} {B : Nat} (h : SB w0 B w) : SB w0 B w.drew := World.grownBy.trans h (grown_drew w _)
theorem SB.alloc {w0 w : World} {B : Nat} (h : SB w0 B w) {p : Prop} (_ : p) (o : Obj) : SB w0 B (w.alloc o) := World.grownBy.trans h (World.grownBy_alloc w o _)
theorem SB.below {w0 w w' : World} {B : Nat} (h : SB w0 B w) (hb : Below w0.heap.size w w') : SB w0 B w' :=
  ⟨hb.os.trans h.os, hb.tape.trans h.tape, hb.output.trans h.output, Nat.le_trans (World.grownBy.size h) hb.size, fun i hi hne => (hb.block i hi).trans (h.block i hi hne)⟩
theorem SB.store {w0 w w' : World} {B : Nat} (h : SB w0 B w) (hg : w.grownBy w' (some B)) : SB w0 B w' := World.grownBy.trans h hg
theorem SB.cell {w0 w : World} {B : Nat} (h : SB w0 B w) {b o : Nat} (hb : b < w0.heap.size) (hne : b ≠ B) : w.cell? ⟨b, o, none⟩ = w0.cell? ⟨b, o, none⟩ := World.cell?_of_block (h.block b hb (by simpa using hne))

theorem wpAnyH_share {P : Program} {md : Region.Mode} {ops : Array Oper} {Q : Exit → Act → World → Prop} {S : World → Prop} {f0 : Nat} {l0 : Array Bool} {a0 : Act} {w0 : World} {C : Type} (T : (Nat → Array Bool → Act → World → Prop) → Nat → Array Bool → C → Prop) {x : Nat} {y : Array Bool} {z : C} (main : T (wpAnyH P md ops Q S) x y z → wpAnyH P md ops Q S f0 l0 a0 w0) (tail : T (wpAnyH P md ops Q S) x y z) : wpAnyH P md ops Q S f0 l0 a0 w0 := main tail
theorem wpAnyH_cast {P : Program} {md : Region.Mode} {ops : Array Oper} {Q : Exit → Act → World → Prop} {S : World → Prop} {f f' : Nat} {l l' : Array Bool} {a : Act} {w : World} (hf : f = f') (hl : l = l') (h : wpAnyH P md ops Q S f' l' a w) : wpAnyH P md ops Q S f l a w := by subst hf; subst hl; exact h
set_option maxRecDepth 100000 in
set_option maxHeartbeats 4000000 in
theorem place_ordered (u : Value) (l : List Cand) (w : World) (hl : l.length ≤ 1000) (hwf : wfs (feats l)) (hu : SlC w u l) :
    Calls Try.prog 36 #[u] w (fun e w' => ∃ B base N, e = .returned (.map (some B)) ∧ GP w' B base N (ordL l) ∧ N ≤ 1000 ∧ w.heap.size ≤ B ∧ Below w.heap.size w w') := by
  obtain ⟨A, ca, rfl, hca, hR⟩ := hu
  have HR := Lib.hid hR
  have HWF := Lib.hid hwf
  have hmm := @run_makeMap Try.prog
  have hM0 : MapV Try.prog 3 ((w.alloc (.cells #[.slice A l.length ca] 22)).alloc (.map #[] 0)) (w.heap.size + 1) 0 (fun _ => none) := by
    have := MapV.made (P := Try.prog) (k := 3) (w.alloc (.cells #[.slice A l.length ca] 22))
    simpa using this
  have hbx0 : ((w.alloc (.cells #[.slice A l.length ca] 22)).alloc (.map #[] 0)).cell? ⟨w.heap.size, 0, none⟩ = some (.slice A l.length ca) := by
    rw [World.cell?_alloc_lt _ _ _ (by simp)]
    unfold World.cell?; rw [heap_alloc_last]; rfl
  have hb00 : Below w.heap.size w ((w.alloc (.cells #[.slice A l.length ca] 22)).alloc (.map #[] 0)) := ((Below.refl _ _).alloc (Nat.le_refl _) _).alloc (by simp) _
  have hsz0 : ((w.alloc (.cells #[.slice A l.length ca] 22)).alloc (.map #[] 0)).heap.size = w.heap.size + 2 := by simp
  clear hR hwf
  go_enter Try.func36, Try.ntmps36
  go_wp2_with (at_make; refine Try.makeI rfl _ _ rfl _ _ _ _ l.length rfl rfl rfl rfl (by omega) ?_; intro w1 hown hb1; have hM1 := hM0.belowN hb1 (by simp); have k1 := hb00.trans (hb1.mono (by rw [hsz0]; omega)); have hbx1 := (Below.cell hb1 (p := ⟨w.heap.size, 0, none⟩) (by show w.heap.size < _; rw [hsz0]; omega)).trans hbx0; have hl1 : w.heap.size + 2 ≤ w1.heap.size := Nat.le_trans (Nat.le_of_eq hsz0.symm) hb1.size; rw [hsz0] at hown hb1 ⊢; rw [idxL_start] at hown; clear hM0 hbx0 hb00 hsz0 hmm hb1)
  obtain ⟨g, hg⟩ : ∃ g, g = w.heap.size + 2 := ⟨_, rfl⟩
  rw [← hg] at hown ⊢
  have hg1 : w.heap.size < g := by omega
  have hg2 : w.heap.size + 1 < g := by omega
  have hg3 : g ≤ w1.heap.size := by omega
  clear hg hl1
  go_loopw [13] (fun i wr => ∃ k : Nat, k ≤ l.length ∧ i = .int .i64 k ∧ OwnI 3 wr g (.slice (some ⟨g, 0, none⟩) l.length l.length) (idxL l.length k) ∧ Below g w1 wr) (fun i _ => l.length - (intOf i).toNat)
  case atStart => exact ⟨0, Nat.zero_le _, rfl, hown, (Below.refl _ _).mono hg3⟩
  case round =>
    clear hown
    obtain ⟨k, hk, rfl, hown, hbw⟩ := hrel
    have hbxr := (Below.cell hbw (p := ⟨w.heap.size, 0, none⟩) hg1).trans hbx1
    have hszr := hbw.size
    have hgr : w.heap.size < wr.heap.size := by omega
    by_cases hlt : k < l.length
    · obtain ⟨gg, cap, he, hbg, hgl, cg, cf, hst⟩ := Mp.OwnI.at_ hown (k := k) (by rw [idxL_len]; exact hlt)
      injection he with he hx1 hx2
      clear hx1 hx2
      injection he with he
      injection he with he
      subst he
      have hset := hst (k : Int)
      rw [idxL_set hlt] at hset
      have HSET := Lib.hid hset
      have hd : decide (k < l.length) = true := decide_eq_true hlt
      clear hst hset hown
      go_wp2
      go_roundw
      case rel => exact ⟨k + 1, by omega, by go_num, HSET.out.1, hbw.trans (HSET.out.2.mono (Nat.le_refl _))⟩
      case measure => simp [intOf]; omega
    · obtain rfl : k = l.length := by omega
      have hd : decide (l.length < l.length) = false := decide_eq_false (by omega)
      rw [idxL_all] at hown
      have kr := k1.trans (hbw.mono (by omega))
      have hMr := hM1.belowN hbw hg2
      clear hM1 k1 hbx1
      go_wp2_with fail
      refine (sort_all l w wr w.heap.size ca g l.length A hl HR.out kr (by omega) hg1 hbxr hown).mono ?_
      rintro e wS ⟨rfl, p, hp, hpl, hRp, hbS⟩
      have hGP : GP wS (w.heap.size + 1) wS.heap.size 0 (fun _ => []) := GP.made (hMr.belowN hbS hg2) (by have := hbS.size; omega) (Nat.le_refl _)
      have kS := kr.trans (hbS.mono (by omega))
      have hbxS := (Below.cell hbS (p := ⟨w.heap.size, 0, none⟩) hg1).trans hbxr
      have HSB : Hid (SB wS (w.heap.size + 1) wS) := Lib.hid (SB.refl _ _)
      have hbS2 : w.heap.size + 2 ≤ wS.heap.size := by have := hbS.size; omega
      have HP := Lib.hid hp
      have HRP := Lib.hid hRp
      have HBX := Lib.hid (fun (W : World) (hW : SB wS (w.heap.size + 1) W) => (by rw [SB.cell hW (by omega) (by omega)]; exact hbxS : W.cell? ⟨w.heap.size, 0, none⟩ = some (.slice A l.length ca)))
      have HRS := Lib.hid (HR.out.below kS)
      have HRB := Lib.hid (fun (b : Nat) (hb : b < w.heap.size) (o : Nat) (W : World) (hW : SB wS (w.heap.size + 1) W) => (by rw [SB.cell hW (by omega) (by omega)]; rw [Below.cell kS hb] : W.cell? ⟨b, o, none⟩ = w.cell? ⟨b, o, none⟩))
      have HPG := Lib.hid (fun (o : Nat) (hgl : g < wS.heap.size) (W : World) (hW : SB wS (w.heap.size + 1) W) => (SB.cell hW hgl (by omega) : W.cell? ⟨g, o, none⟩ = wS.cell? ⟨g, o, none⟩))
      have HKS := Lib.hid kS
      clear hp hRp hown hMr hbS hbxr hbxS kr hgr hszr hbw hd kS
      have HEND : Hid ((fun z => ofF l z p) = ordL l) := Lib.hid (funext fun z => (ordL_filter HP.out z).symm)
      have hBn : w.heap.size < w.heap.size + 1 := by omega
      generalize w.heap.size + 1 = B at *
      go_wp2_with fail
      go_loopw [26] (fun i wr => ∃ k : Nat, k ≤ l.length ∧ i = .int .i64 k ∧ GP wr B wS.heap.size k (fun f => ofF l f (p.take k)) ∧ SB wS B wr) (fun i _ => l.length - (intOf i).toNat)
      case atStart => exact ⟨0, Nat.zero_le _, rfl, hGP, HSB.out⟩
      case round =>
        clear hGP
        obtain ⟨k, hk, rfl, hG, hsb⟩ := hrel
        by_cases hlt : k < l.length
        · obtain ⟨y, hyl, hy⟩ := (HP.out.2 p[k]!).1 (getMem (by omega))
          obtain ⟨b', off', hA, hb', HC⟩ := RdI.cells HRP.out (show 0 < p.length by omega)
          injection hA with hA
          injection hA with hA1 hA2
          subst hA1 hA2
          have g1 : wr.cell? ⟨g, k, none⟩ = some (.int .i64 (y : Int)) := by
            have := HC wS (Below.refl _ _) k (by omega)
            rw [hy, Nat.zero_add] at this
            rw [HPG.out k hb' wr hsb]; exact this
          obtain ⟨bl, offl, rfl, hbl, HCL⟩ := Rd.rangeCs HR.out (show 0 < l.length by omega)
          obtain ⟨fe, hf⟩ : ∃ fe, l[y]!.f = fe := ⟨_, rfl⟩
          have hwf : (Lit.int .i64 fe).wf = true := by rw [← hf]; exact HWF.out _ (feats_get hyl)
          have HFE := Lib.hid (fun (W : World) (hW : SB wS B W) => (by
            have := (HCL w (Below.refl _ _) y hyl 0 _ rfl : w.cell? ⟨bl, offl + y * 8 + 0, none⟩ = some (.int .i64 l[y]!.f))
            rw [hf] at this
            rw [HRB.out bl hbl _ W hW]
            exact this : W.cell? ⟨bl, offl + y * 8, none⟩ = some (.int .i64 fe)))
          have hnx : (fun z => ofF l z (p.take (k + 1))) = (fun z => if z = fe then ofF l fe (p.take k) ++ [(y : Int)] else ofF l z (p.take k)) := by
            funext z
            rw [ofF_take (by omega), hy]
            by_cases hz : z = fe
            · subst hz; rw [if_pos (by simpa using hf), if_pos rfl]
            · rw [if_neg (by simp only [Int.toNat_natCast]; rw [hf]; exact fun e => hz e.symm), if_neg hz]
          have hlen : (ofF l fe (p.take k)).length ≤ 1000 := by
            have h1 : (ofF l fe (p.take k)).length ≤ (p.take k).length := List.length_filter_le _ _
            have h2 : (p.take k).length ≤ k := List.length_take_le _ _
            omega
          obtain ⟨G, hGd⟩ : ∃ G : Int → List Int, (fun f => ofF l f (p.take k)) = G := ⟨_, rfl⟩
          have hGf : ∀ z, ofF l z (p.take k) = G z := fun z => by rw [← hGd]
          rw [hGd] at hG
          simp only [hGf] at hnx hlen
          have HNX := Lib.hid hnx
          have HLEN := Lib.hid hlen
          have HK : Hid (k ≤ 100000) := Lib.hid (by omega)
          have hd : decide (k < l.length) = true := decide_eq_true hlt
          have hS1 : (fun W : World => SB wS B W) wr.drew := hsb.drew
          replace hG := hG.drew
          clear hy HC HCL hf hnx hlen hGd hGf HEND hsb
          go_wp2_with fail
          clear g1
          refine wp_region_held_drew (S := fun W : World => SB wS B W) (by kernel_rfl) hS1 (fun hHeld => ?_)
          clear hHeld
          generalize wr.drew = wzra at *
          refine wpAnyH_take (i := 0) (oi := ⟨some 30, _, _, _, _, _⟩) (v := ?vra1) rfl (by kernel_rfl) (by kernel_rfl) (by kernel_rfl) (fun _ _ _ h => h) (Or.inl ⟨by kernel_rfl, ?hyra1⟩) (by assumption) ?restra1
          case hyra1 => (intro W hSw; (try dsimp only at hSw); go_simp; try with_reducible rfl)
          case' restra1 => try simp only [Act.put, List.setIfInBounds_toArray, List.set_cons_zero, List.set_cons_succ]
          refine wpAnyH_take (i := 1) (oi := ⟨some 31, _, _, _, _, _⟩) (v := ?vra2) rfl (by kernel_rfl) (by kernel_rfl) (by kernel_rfl) (fun _ _ _ h => h) (Or.inl ⟨by kernel_rfl, ?hyra2⟩) (by assumption) ?restra2
          case hyra2 => (intro W hSw; have gq := HBX.out W hSw; (try dsimp only at hSw); go_simp; try with_reducible rfl)
          case' restra2 => try simp only [Act.put, List.setIfInBounds_toArray, List.set_cons_zero, List.set_cons_succ]
          refine wpAnyH_take (i := 2) (oi := ⟨some 32, _, _, _, _, _⟩) (v := ?vra3) rfl (by kernel_rfl) (by kernel_rfl) (by kernel_rfl) (fun _ _ _ h => h) (Or.inl ⟨by kernel_rfl, ?hyra3⟩) (by assumption) ?restra3
          case hyra3 => (intro W hSw; (try dsimp only at hSw); go_simp; try with_reducible rfl)
          case' restra3 => try simp only [Act.put, List.setIfInBounds_toArray, List.set_cons_zero, List.set_cons_succ]
          refine wpAnyH_take (i := 3) (oi := ⟨some 33, _, _, _, _, _⟩) (v := ?vra4) rfl (by kernel_rfl) (by kernel_rfl) (by kernel_rfl) (fun _ _ _ h => h) (Or.inl ⟨by kernel_rfl, ?hyra4⟩) (by assumption) ?restra4
          case hyra4 => (intro W hSw; (try dsimp only at hSw); go_simp; try with_reducible rfl)
          case' restra4 => try simp only [Act.put, List.setIfInBounds_toArray, List.set_cons_zero, List.set_cons_succ]
          refine wpAnyH_take (i := 4) (oi := ⟨some 34, _, _, _, _, _⟩) (v := ?vra5) rfl (by kernel_rfl) (by kernel_rfl) (by kernel_rfl) (fun _ _ _ h => h) (Or.inl ⟨by kernel_rfl, ?hyra5⟩) (by assumption) ?restra5
          case hyra5 => (intro W hSw; (try dsimp only at hSw); go_simp; try with_reducible rfl)
          case' restra5 => try simp only [Act.put, List.setIfInBounds_toArray, List.set_cons_zero, List.set_cons_succ]
          refine wpAnyH_take (i := 5) (oi := ⟨some 35, _, _, _, _, _⟩) (v := ?vra6) rfl (by kernel_rfl) (by kernel_rfl) (by kernel_rfl) (fun _ _ _ h => h) (Or.inl ⟨by kernel_rfl, ?hyra6⟩) (by assumption) ?restra6
          case hyra6 => (intro W hSw; have gq := HFE.out W hSw; (try dsimp only at hSw); go_simp; try with_reducible rfl)
          case' restra6 => try simp only [Act.put, List.setIfInBounds_toArray, List.set_cons_zero, List.set_cons_succ]
          refine wpAnyH_take (i := 6) (oi := ⟨some 36, _, _, _, _, _⟩) (v := ?vra7) rfl (by kernel_rfl) (by kernel_rfl) (by kernel_rfl) (fun _ _ _ h => h) (Or.inl ⟨by kernel_rfl, ?hyra7⟩) (by assumption) ?restra7
          case hyra7 => (intro W hSw; (try dsimp only at hSw); go_simp; try with_reducible rfl)
          case' restra7 => try simp only [Act.put, List.setIfInBounds_toArray, List.set_cons_zero, List.set_cons_succ]
          refine wpAnyH_take (i := 7) (oi := ⟨some 37, _, _, _, _, _⟩) (v := ?vra8) rfl (by kernel_rfl) (by kernel_rfl) (by kernel_rfl) (fun _ _ _ h => h) (Or.inl ⟨by kernel_rfl, ?hyra8⟩) (by assumption) ?restra8
          case hyra8 => (intro W hSw; have gq := HBX.out W hSw; (try dsimp only at hSw); go_simp; try with_reducible rfl)
          case' restra8 => try simp only [Act.put, List.setIfInBounds_toArray, List.set_cons_zero, List.set_cons_succ]
          refine wpAnyH_take (i := 8) (oi := ⟨some 38, _, _, _, _, _⟩) (v := ?vra9) rfl (by kernel_rfl) (by kernel_rfl) (by kernel_rfl) (fun _ _ _ h => h) (Or.inl ⟨by kernel_rfl, ?hyra9⟩) (by assumption) ?restra9
          case hyra9 => (intro W hSw; (try dsimp only at hSw); go_simp; try with_reducible rfl)
          case' restra9 => try simp only [Act.put, List.setIfInBounds_toArray, List.set_cons_zero, List.set_cons_succ]
          refine wpAnyH_take (i := 9) (oi := ⟨some 39, _, _, _, _, _⟩) (v := ?vra10) rfl (by kernel_rfl) (by kernel_rfl) (by kernel_rfl) (fun _ _ _ h => h) (Or.inl ⟨by kernel_rfl, ?hyra10⟩) (by assumption) ?restra10
          case hyra10 => (intro W hSw; (try dsimp only at hSw); go_simp; try with_reducible rfl)
          case' restra10 => try simp only [Act.put, List.setIfInBounds_toArray, List.set_cons_zero, List.set_cons_succ]
          refine wpAnyH_take (i := 10) (oi := ⟨some 40, _, _, _, _, _⟩) (v := ?vra11) rfl (by kernel_rfl) (by kernel_rfl) (by kernel_rfl) (fun _ _ _ h => h) (Or.inl ⟨by kernel_rfl, ?hyra11⟩) (by assumption) ?restra11
          case hyra11 => (intro W hSw; (try dsimp only at hSw); go_simp; try with_reducible rfl)
          case' restra11 => try simp only [Act.put, List.setIfInBounds_toArray, List.set_cons_zero, List.set_cons_succ]
          refine wpAnyH_take (i := 11) (oi := ⟨some 41, _, _, _, _, _⟩) (v := ?vra12) rfl (by kernel_rfl) (by kernel_rfl) (by kernel_rfl) (fun _ _ _ h => h) (Or.inl ⟨by kernel_rfl, ?hyra12⟩) (by assumption) ?restra12
          case hyra12 => (intro W hSw; have gq := HFE.out W hSw; (try dsimp only at hSw); go_simp; try with_reducible rfl)
          case' restra12 => try simp only [Act.put, List.setIfInBounds_toArray, List.set_cons_zero, List.set_cons_succ]
          refine wpAnyH_take (i := 13) (oi := ⟨some 43, _, _, _, _, _⟩) (v := ?vra13) rfl (by kernel_rfl) (by kernel_rfl) (by kernel_rfl) (fun _ _ _ h => h) (Or.inl ⟨by kernel_rfl, ?hyra13⟩) (by assumption) ?restra13
          case hyra13 => (intro W hSw; (try dsimp only at hSw); go_simp; try with_reducible rfl)
          case' restra13 => try simp only [Act.put, List.setIfInBounds_toArray, List.set_cons_zero, List.set_cons_succ]
          refine' wpAnyH_share (fun H f l (act : Value → Value → Act) => ∀ (vf : Value) (vt : Value) (WX : World), GL WX B wS.heap.size k G fe vf → One WX vt (y : Int) → (fun W : World => SB wS B W) WX → H f l (act vf vt) WX) (fun tailra14 => ?mtailra14) ?ttailra14
          case mtailra14 =>
            refine wpAnyH_ready (rs := [12, 14]) (by kernel_rfl) (by simp) ?_
            refine AllReadyH.cons (o := ⟨some 42, _, _, _, _, _⟩) rfl (fun K hK => ?_) ?_
            · skip
              refine GP.stepLook hG rfl (.tmp 36) (.tmp 41) rfl rfl fe rfl hwf ?_
              intro vf hL
              try clear hG
              refine hK.out _ _ hS1 (fun hHeld => ?_)
              clear hK hHeld K
              try simp only [Act.put, List.setIfInBounds_toArray, List.set_cons_zero, List.set_cons_succ]
              refine wpAnyH_ready (rs := [14]) (by kernel_rfl) (by simp) ?_
              refine AllReadyH.cons (o := ⟨some 44, _, _, _, _, _⟩) rfl (fun K hK => ?_) AllReadyH.nil
              go_simp
              replace hL := hL.alloc (.cells #[.int .i64 (y : Int)] 3)
              have hone := One.made wzra (y : Int)
              have hSWra1 := hS1.alloc hS1.size (.cells #[.int .i64 (y : Int)] 3)
              refine hK.out _ _ hSWra1 (fun hHeld => ?_)
              clear hK hHeld K
              try clear hS1
              try simp only [Act.put, List.setIfInBounds_toArray, List.set_cons_zero, List.set_cons_succ]
              generalize (wzra.alloc (.cells #[.int .i64 (y : Int)] 3)) = Wra1 at hL hone hSWra1 ⊢
              generalize Value.slice (some ⟨wzra.heap.size, 0, none⟩) 1 1 = vt at hone ⊢
              exact wpAnyH_cast rfl rfl (tailra14 vf vt Wra1 hL hone hSWra1)
            refine AllReadyH.cons (o := ⟨some 44, _, _, _, _, _⟩) rfl (fun K hK => ?_) AllReadyH.nil
            go_simp
            replace hG := hG.alloc (.cells #[.int .i64 (y : Int)] 3)
            have hone := One.made wzra (y : Int)
            have hSWra2 := hS1.alloc hS1.size (.cells #[.int .i64 (y : Int)] 3)
            refine hK.out _ _ hSWra2 (fun hHeld => ?_)
            clear hK hHeld K
            try clear hS1
            try simp only [Act.put, List.setIfInBounds_toArray, List.set_cons_zero, List.set_cons_succ]
            generalize (wzra.alloc (.cells #[.int .i64 (y : Int)] 3)) = Wra2 at hG hone hSWra2 ⊢
            generalize Value.slice (some ⟨wzra.heap.size, 0, none⟩) 1 1 = vt at hone ⊢
            refine wpAnyH_ready (rs := [12]) (by kernel_rfl) (by simp) ?_
            refine AllReadyH.cons (o := ⟨some 42, _, _, _, _, _⟩) rfl (fun K hK => ?_) AllReadyH.nil
            refine GP.stepLook hG rfl (.tmp 36) (.tmp 41) rfl rfl fe rfl hwf ?_
            intro vf hL
            try clear hG
            refine hK.out _ _ hSWra2 (fun hHeld => ?_)
            clear hK hHeld K
            try simp only [Act.put, List.setIfInBounds_toArray, List.set_cons_zero, List.set_cons_succ]
            exact wpAnyH_cast (by kernel_rfl) (by kernel_rfl) (tailra14 vf vt Wra2 hL hone hSWra2)
          case ttailra14 =>
            try clear hG
            try clear hS1
            intro vf vt Wra3 hL hone hSWra3
            refine wpAnyH_ready (rs := [15]) (by kernel_rfl) (by simp) ?_
            refine AllReadyH.cons (o := ⟨some 45, _, _, _, _, _⟩) rfl (fun K hK => ?_) AllReadyH.nil
            refine GL.stepApp hL hone HLEN.out rfl _ _ rfl rfl rfl ?_
            intro v2 Wra4 hA hbA
            have hSWra4 := hSWra3.below hbA
            try clear hL
            try clear hone
            clear hbA
            try clear hSWra3
            refine hK.out _ _ hSWra4 (fun hHeld => ?_)
            clear hK hHeld K
            try simp only [Act.put, List.setIfInBounds_toArray, List.set_cons_zero, List.set_cons_succ]
            refine wpAnyH_ready (rs := [16]) (by kernel_rfl) (by simp) ?_
            refine AllReadyH.cons (o := ⟨none, _, _, _, _, _⟩) rfl (fun K hK => ?_) AllReadyH.nil
            refine GA.stepStore hA rfl _ _ _ rfl rfl rfl rfl hwf HK.out ?_
            intro Wra5 hP hgP
            have hSWra5 := hSWra4.store hgP
            try clear hA
            clear hgP
            try clear hSWra4
            refine hK.out _ _ hSWra5 (fun hHeld => ?_)
            clear hK hHeld K
            try simp only [Act.put, List.setIfInBounds_toArray, List.set_cons_zero, List.set_cons_succ]
            refine wpAnyH_done (by kernel_rfl) ?_ _
            go_wp2
            go_roundw
            case rel => exact ⟨k + 1, by omega, by go_num, by rw [HNX.out]; exact hP, hSWra5⟩
            case measure => simp [intOf]; omega
        · obtain rfl : k = l.length := by omega
          have hd : decide (l.length < l.length) = false := decide_eq_false (by omega)
          rw [show p.take l.length = p by rw [← hpl, List.take_length], HEND.out] at hG
          have hbe := below_grown HKS.out hsb (by omega) (by omega)
          go_wp2
          go_ret
          exact ⟨_, _, _, rfl, hG, hl, by omega, hbe⟩
end Go.Proofs
