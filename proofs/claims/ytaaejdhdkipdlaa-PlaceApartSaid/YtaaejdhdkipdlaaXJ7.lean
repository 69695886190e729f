/- fits. -/
import Derived.Test.YtaaejdhdkipdlaaXV7
import Derived.Laws.OwnMore
set_option linter.unusedVariables false
set_option linter.unusedSimpArgs false
namespace Go.Proofs
open Go.RowKit Go.Proofs.Mp Go.Proofs.Uf

def inAll (l : List Cand) (ch : List Int) : Prop := ∀ j, j < ch.length → inB l.length ch[j]! = true
theorem inAll_iff {l : List Cand} {ch : List Int} : inAll l ch ↔ ∀ x ∈ ch, inB l.length x = true := by
  constructor
  · intro h x hx
    obtain ⟨j, hj, rfl⟩ := List.mem_iff_getElem.1 hx
    have := h j hj
    rwa [getElem!_pos ch j hj] at this
  · intro h j hj
    rw [getElem!_pos ch j hj]
    exact h _ (List.getElem_mem hj)
def fitsB (l : List Cand) (ch : List Int) (i : Int) : Bool := ch.all fun j => !hitI l i j
theorem fits_no {l : List Cand} {ch : List Int} {i : Int} {k : Nat} (hk : k < ch.length) (h : hitI l i ch[k]! = true) : fitsB l ch i = false := by
  unfold fitsB
  rw [List.all_eq_false]
  rw [getElem!_pos ch k hk] at h
  exact ⟨_, List.getElem_mem hk, by simp [h]⟩
theorem fits_yes {l : List Cand} {ch : List Int} {i : Int} (h : ∀ j, j < ch.length → hitI l i ch[j]! = false) : fitsB l ch i = true := by
  unfold fitsB
  rw [List.all_eq_true]
  intro x hx
  obtain ⟨j, hj, rfl⟩ := List.mem_iff_getElem.1 hx
  have := h j hj
  rw [getElem!_pos ch j hj] at this
  simp [this]
set_option maxRecDepth 100000 in
set_option maxHeartbeats 4000000 in
theorem ref_fits (u v : Value) (l : List Cand) (ch : List Int) (n1 : Nat) (w : World) (hl : l.length ≤ 1000) (hc : ch.length ≤ 1000) (hn1l : n1 < l.length) (hin : inAll l ch) (hu : SlC w u l) (hv : SlI w v ch) :
    Calls Try.prog 39 #[u, v, .int .i64 n1] w (RetV w (.bool (fitsB l ch n1))) := by
  obtain ⟨A, ca, rfl, hca, hR⟩ := hu
  obtain ⟨B, cb, rfl, hcb, hRc⟩ := hv
  have HR := Lib.hid hR
  have HRC := Lib.hid hRc
  have HIN := Lib.hid hin
  clear hR hRc hin
  go_enter Try.func39, Try.ntmps39
  go_wp2_with fail
  go_loopw [7] (fun i wr => ∃ k : Nat, k ≤ ch.length ∧ i = .int .i64 k ∧ Hid (∀ j, j < k → hitI l (n1 : Int) ch[j]! = false) ∧ Below w.heap.size w wr) (fun i _ => ch.length - (intOf i).toNat)
  case atStart => exact ⟨0, Nat.zero_le _, rfl, Lib.hid (fun j hj => by omega), Below.refl _ _⟩
  case round =>
    obtain ⟨k, hk, rfl, hno, hbw⟩ := hrel
    by_cases hlt : k < ch.length
    · obtain ⟨b, off, rfl, hb, HC⟩ := RdI.cells HRC.out (show 0 < ch.length by omega)
      obtain ⟨n2, hn2, hn2l⟩ := inB_nat (HIN.out k hlt)
      have HG := Lib.hid (fun (W : World) (hW : Below wr.heap.size wr W) => (by have := HC W (hbw.trans (hW.mono hbw.size)) k hlt; rwa [hn2] at this : W.cell? ⟨b, off + k, none⟩ = some (.int .i64 (n2 : Int))))
      have HHI : Hid (hitI l (n1 : Int) ch[k]! = hitB l[n1]! l[n2]!) := Lib.hid (by unfold hitI; rw [hn2]; simp)
      obtain ⟨bl, offl, rfl, hbl, HCL⟩ := Rd.rangeCs HR.out (show 0 < l.length by omega)
      have HX := Lib.hid (fun (W : World) (hW : Below wr.heap.size wr W) => HCL W (hbw.trans (hW.mono hbw.size)) n1 hn1l)
      have HY := Lib.hid (fun (W : World) (hW : Below wr.heap.size wr W) => HCL W (hbw.trans (hW.mono hbw.size)) n2 hn2l)
      obtain ⟨x, hx⟩ : ∃ x, l[n1]! = x := ⟨_, rfl⟩
      obtain ⟨y, hy⟩ : ∃ y, l[n2]! = y := ⟨_, rfl⟩
      rw [hx] at HX HHI
      rw [hy] at HY HHI
      have hd : decide (k < ch.length) = true := decide_eq_true hlt
      clear hn2 HCL hx hy HC
      have hS1 : (fun W : World => Below wr.heap.size wr W) wr.drew := (Below.refl _ _).drew
      go_wp2_with fail
      refine wp_region_held_drew (S := fun W : World => Below wr.heap.size wr W) (by kernel_rfl) hS1 (fun hHeld => ?_)
      clear hHeld
      generalize wr.drew = wzra at *
      refine wpAnyH_take (i := 0) (oi := ⟨some 14, _, _, _, _, _⟩) (v := ?vra1) rfl (by kernel_rfl) (by kernel_rfl) (by kernel_rfl) (fun _ _ _ h => h) (Or.inl ⟨by kernel_rfl, ?hyra1⟩) (by assumption) ?restra1
      case hyra1 => (intro W hSw; (try dsimp only at hSw); go_simp; try with_reducible rfl)
      case' restra1 => try simp only [Act.put, List.setIfInBounds_toArray, List.set_cons_zero, List.set_cons_succ]
      refine wpAnyH_take (i := 1) (oi := ⟨some 15, _, _, _, _, _⟩) (v := ?vra2) rfl (by kernel_rfl) (by kernel_rfl) (by kernel_rfl) (fun _ _ _ h => h) (Or.inl ⟨by kernel_rfl, ?hyra2⟩) (by assumption) ?restra2
      case hyra2 => (intro W hSw; (try dsimp only at hSw); go_simp; try with_reducible rfl)
      case' restra2 => try simp only [Act.put, List.setIfInBounds_toArray, List.set_cons_zero, List.set_cons_succ]
      refine wpAnyH_take (i := 2) (oi := ⟨some 16, _, _, _, _, _⟩) (v := ?vra3) rfl (by kernel_rfl) (by kernel_rfl) (by kernel_rfl) (fun _ _ _ h => h) (Or.inl ⟨by kernel_rfl, ?hyra3⟩) (by assumption) ?restra3
      case hyra3 => (intro W hSw; (try dsimp only at hSw); go_simp; try with_reducible rfl)
      case' restra3 => try simp only [Act.put, List.setIfInBounds_toArray, List.set_cons_zero, List.set_cons_succ]
      refine wpAnyH_take (i := 3) (oi := ⟨some 17, _, _, _, _, _⟩) (v := ?vra4) rfl (by kernel_rfl) (by kernel_rfl) (by kernel_rfl) (fun _ _ _ h => h) (Or.inl ⟨by kernel_rfl, ?hyra4⟩) (by assumption) ?restra4
      case hyra4 => (intro W hSw; refine Try.exec45 x (.tmp 16) ?_ bl (offl + n1 * 8) ?_ (HX.out W hSw) <;> rfl)
      case' restra4 => try simp only [Act.put, List.setIfInBounds_toArray, List.set_cons_zero, List.set_cons_succ]
      refine wpAnyH_take (i := 4) (oi := ⟨some 18, _, _, _, _, _⟩) (v := ?vra5) rfl (by kernel_rfl) (by kernel_rfl) (by kernel_rfl) (fun _ _ _ h => h) (Or.inl ⟨by kernel_rfl, ?hyra5⟩) (by assumption) ?restra5
      case hyra5 => (intro W hSw; (try dsimp only at hSw); go_simp; try with_reducible rfl)
      case' restra5 => try simp only [Act.put, List.setIfInBounds_toArray, List.set_cons_zero, List.set_cons_succ]
      refine wpAnyH_take (i := 5) (oi := ⟨some 19, _, _, _, _, _⟩) (v := ?vra6) rfl (by kernel_rfl) (by kernel_rfl) (by kernel_rfl) (fun _ _ _ h => h) (Or.inl ⟨by kernel_rfl, ?hyra6⟩) (by assumption) ?restra6
      case hyra6 => (intro W hSw; (try dsimp only at hSw); go_simp; try with_reducible rfl)
      case' restra6 => try simp only [Act.put, List.setIfInBounds_toArray, List.set_cons_zero, List.set_cons_succ]
      refine wpAnyH_take (i := 6) (oi := ⟨some 20, _, _, _, _, _⟩) (v := ?vra7) rfl (by kernel_rfl) (by kernel_rfl) (by kernel_rfl) (fun _ _ _ h => h) (Or.inl ⟨by kernel_rfl, ?hyra7⟩) (by assumption) ?restra7
      case hyra7 => (intro W hSw; (try dsimp only at hSw); go_simp; try with_reducible rfl)
      case' restra7 => try simp only [Act.put, List.setIfInBounds_toArray, List.set_cons_zero, List.set_cons_succ]
      refine wpAnyH_take (i := 7) (oi := ⟨some 21, _, _, _, _, _⟩) (v := ?vra8) rfl (by kernel_rfl) (by kernel_rfl) (by kernel_rfl) (fun _ _ _ h => h) (Or.inl ⟨by kernel_rfl, ?hyra8⟩) (by assumption) ?restra8
      case hyra8 => (intro W hSw; (try dsimp only at hSw); go_simp; try with_reducible rfl)
      case' restra8 => try simp only [Act.put, List.setIfInBounds_toArray, List.set_cons_zero, List.set_cons_succ]
      refine wpAnyH_take (i := 8) (oi := ⟨some 22, _, _, _, _, _⟩) (v := ?vra9) rfl (by kernel_rfl) (by kernel_rfl) (by kernel_rfl) (fun _ _ _ h => h) (Or.inl ⟨by kernel_rfl, ?hyra9⟩) (by assumption) ?restra9
      case hyra9 => (intro W hSw; have gq := HG.out W hSw; (try dsimp only at hSw); go_simp; try with_reducible rfl)
      case' restra9 => try simp only [Act.put, List.setIfInBounds_toArray, List.set_cons_zero, List.set_cons_succ]
      refine wpAnyH_take (i := 9) (oi := ⟨some 23, _, _, _, _, _⟩) (v := ?vra10) rfl (by kernel_rfl) (by kernel_rfl) (by kernel_rfl) (fun _ _ _ h => h) (Or.inl ⟨by kernel_rfl, ?hyra10⟩) (by assumption) ?restra10
      case hyra10 => (intro W hSw; (try dsimp only at hSw); go_simp; try with_reducible rfl)
      case' restra10 => try simp only [Act.put, List.setIfInBounds_toArray, List.set_cons_zero, List.set_cons_succ]
      refine wpAnyH_take (i := 10) (oi := ⟨some 24, _, _, _, _, _⟩) (v := ?vra11) rfl (by kernel_rfl) (by kernel_rfl) (by kernel_rfl) (fun _ _ _ h => h) (Or.inl ⟨by kernel_rfl, ?hyra11⟩) (by assumption) ?restra11
      case hyra11 => (intro W hSw; refine Try.exec45 y (.tmp 23) ?_ bl (offl + n2 * 8) ?_ (HY.out W hSw) <;> rfl)
      case' restra11 => try simp only [Act.put, List.setIfInBounds_toArray, List.set_cons_zero, List.set_cons_succ]
      refine wpAnyH_ready (rs := [11]) (by kernel_rfl) (by simp) ?_
      refine AllReadyH.cons (o := ⟨some 25, _, _, _, _, _⟩) rfl (fun K hK => ?_) AllReadyH.nil
      go_simp
      go_at_call 30
      refine (ref_hit x y wzra).mono ?_
      rintro e Wra1 ⟨rfl, hbWra1⟩
      have hSWra1 := hS1.trans (hbWra1.mono hS1.size)
      try clear hS1
      clear hbWra1
      go_wp2_with fail
      refine hK.out _ _ hSWra1 (fun hHeld => ?_)
      clear hK hHeld K
      try simp only [Act.put, List.setIfInBounds_toArray, List.set_cons_zero, List.set_cons_succ]
      refine wpAnyH_done (by kernel_rfl) ?_ _
      obtain ⟨p, hp⟩ : ∃ p, hitB x y = p := ⟨_, rfl⟩
      rw [hp]
      have HPH := Lib.hid hp
      clear hp
      cases p
      · go_wp2
        go_roundw
        case rel => exact ⟨k + 1, by omega, by go_num, Lib.hid (fun j hj => by
          rcases Nat.lt_succ_iff_lt_or_eq.1 hj with h2 | rfl
          · exact hno.out j h2
          · rw [HHI.out]; exact HPH.out), hbw.trans (hSWra1.mono hbw.size)⟩
        case measure => simp [intOf]; omega
      · go_wp2
        go_ret
        exact RetV.bool (fits_no hlt (by rw [HHI.out]; exact HPH.out)).symm (hbw.trans (hSWra1.mono hbw.size))
    · obtain rfl : k = ch.length := by omega
      have hd : decide (ch.length < ch.length) = false := decide_eq_false (by omega)
      go_wp2
      go_ret
      exact RetV.bool (fits_yes hno.out).symm hbw
end Go.Proofs
/- The reference's ordered: insertion by cost. -/
set_option linter.unusedVariables false
set_option linter.unusedSimpArgs false
namespace Go.Proofs
open Go.RowKit Go.Proofs.Mp Go.Proofs.Uf

/-- an element of a row of the call's own: it reads, and may be written -/
theorem Mp.OwnI.at_ {e : TypeId} {w : World} {base : Nat} {v : Value} {xs : List Int} (h : OwnI e w base v xs) {k : Nat} (hk : k < xs.length) :
    ∃ g cap, v = .slice (some ⟨g, 0, none⟩) xs.length cap ∧ base ≤ g ∧ g < w.heap.size ∧ w.cell? ⟨g, k, none⟩ = some (.int .i64 xs[k]!) ∧ w.frozen? ⟨g, k, none⟩ = false ∧
      ∀ u : Int, OwnI e (w.setCell ⟨g, k, none⟩ (.int .i64 u)) base v (xs.set k u) ∧ Below base w (w.setCell ⟨g, k, none⟩ (.int .i64 u)) := by
  have h0 := h
  rcases h.2 with ⟨_, hn⟩ | ⟨g, cap, cur, rfl, hb, hh, hnc, hm, hcs, htake⟩
  · omega
  · have hR := Own.rd encI_len h0
    obtain ⟨b, off, he, hlt, hc⟩ := RdI.get hR (Below.refl _ _) hk
    injection he with he
    injection he with e1 e2
    subst e1; subst e2
    refine ⟨g, cap, rfl, hb, hlt, by simpa using hc, frozen_of_row w g _ cur e hh, fun u => ⟨?_, (Below.refl _ _).setCell (p := ⟨g, k, none⟩) hb _⟩⟩
    have hs := (World.ownsRow.stored h0 k (.int .i64 u)).1
    have key : ∀ (l : List Int) (k : Nat) (u : Int), (l.set k u).flatMap Mp.encI = (l.flatMap Mp.encI).set k (.int .i64 u) := by
      intro l
      induction l with
      | nil => intro k u; rfl
      | cons x l ih =>
        intro k u
        rcases k with _ | k
        · rfl
        · show Mp.encI x ++ (l.set k u).flatMap Mp.encI = _
          rw [ih]; rfl
    unfold OwnI Own
    rw [key, List.length_set]
    exact hs


def coI (l : List Cand) (i : Int) : Int := l[i.toNat]!.co
def posK (l : List Cand) (acc : List Int) (x : Int) : Nat := (acc.reverse.dropWhile fun j => decide (coI l x < coI l j)).length
def insK (l : List Cand) (acc : List Int) (x : Int) : List Int := acc.take (posK l acc x) ++ x :: acc.drop (posK l acc x)
def ordK (l : List Cand) (f : Int) : Nat → List Int
  | 0 => []
  | k + 1 => if l[k]!.f = f then insK l (ordK l f k) (k : Int) else ordK l f k
def ordL (l : List Cand) (f : Int) : List Int := ordK l f l.length
theorem dropWhile_len {p : Int → Bool} : ∀ (r : List Int) (k : Nat), k ≤ r.length → (∀ j, j < k → p r[j]! = true) → (k = r.length ∨ p r[k]! = false) → (r.dropWhile p).length = r.length - k
  | [], k, hk, _, _ => by simp
  | y :: r, 0, hk, h1, h2 => by
    rcases h2 with h2 | h2
    · simp at h2
    · rw [List.dropWhile_cons, if_neg (by simpa using h2)]; simp
  | y :: r, k + 1, hk, h1, h2 => by
    rw [List.dropWhile_cons, if_pos (by simpa using h1 0 (by omega))]
    rw [dropWhile_len r k (by simpa using hk) (fun j hj => by simpa using h1 (j + 1) (by omega)) (by simpa using h2)]
    simp
theorem posK_eq {l : List Cand} {acc : List Int} {x : Int} {m : Nat} (hm : m ≤ acc.length) (h1 : ∀ j, m ≤ j → j < acc.length → coI l x < coI l acc[j]!) (h2 : m = 0 ∨ ¬ coI l x < coI l acc[m - 1]!) : posK l acc x = m := by
  unfold posK
  rw [dropWhile_len acc.reverse (acc.length - m) (by simp) ?_ ?_, List.length_reverse]
  · omega
  · intro j hj
    have hlt : j < acc.reverse.length := by rw [List.length_reverse]; omega
    rw [getElem!_pos acc.reverse j hlt, List.getElem_reverse]
    have := h1 (acc.length - 1 - j) (by omega) (by omega)
    rw [getElem!_pos acc _ (by omega)] at this
    simpa using this
  · rcases h2 with rfl | h2
    · exact .inl (by simp)
    · by_cases h0 : m = 0
      · subst h0; exact .inl (by simp)
      · right
        have hlt : acc.length - m < acc.reverse.length := by rw [List.length_reverse]; omega
        rw [getElem!_pos acc.reverse _ hlt, List.getElem_reverse]
        rw [getElem!_pos acc _ (by omega)] at h2
        have e : acc.length - 1 - (acc.length - m) = m - 1 := by omega
        simp only [e]
        simpa using h2
theorem posK_le (l : List Cand) (acc : List Int) (x : Int) : posK l acc x ≤ acc.length := by
  unfold posK
  have := (List.dropWhile_suffix (l := acc.reverse) (fun j => decide (coI l x < coI l j))).length_le
  simpa using this
theorem insK_len (l : List Cand) (acc : List Int) (x : Int) : (insK l acc x).length = acc.length + 1 := by
  have := posK_le l acc x
  unfold insK
  simp; omega
theorem insK_mem (l : List Cand) (acc : List Int) (x z : Int) : z ∈ insK l acc x ↔ z = x ∨ z ∈ acc := by
  unfold insK
  conv => rhs; rw [← List.take_append_drop (posK l acc x) acc]
  simp only [List.mem_append, List.mem_cons]
  constructor
  · rintro (h | h | h)
    · exact .inr (.inl h)
    · exact .inl h
    · exact .inr (.inr h)
  · rintro (h | h | h)
    · exact .inr (.inl h)
    · exact .inl h
    · exact .inr (.inr h)
theorem ordK_len (l : List Cand) (f : Int) : ∀ k, (ordK l f k).length ≤ k
  | 0 => Nat.le_refl _
  | k + 1 => by
    have := ordK_len l f k
    unfold ordK
    split
    · rw [insK_len]; omega
    · omega
theorem ordK_mem (l : List Cand) (f : Int) (z : Int) : ∀ k, z ∈ ordK l f k ↔ ∃ j : Nat, j < k ∧ z = (j : Int) ∧ l[j]!.f = f
  | 0 => by simp [ordK]
  | k + 1 => by
    unfold ordK
    split
    · rename_i hf
      rw [insK_mem, ordK_mem l f z k]
      constructor
      · rintro (rfl | ⟨j, h1, h2, h3⟩)
        · exact ⟨k, by omega, rfl, hf⟩
        · exact ⟨j, by omega, h2, h3⟩
      · rintro ⟨j, h1, h2, h3⟩
        by_cases e : j = k
        · subst e; exact .inl h2
        · exact .inr ⟨j, by omega, h2, h3⟩
    · rename_i hf
      rw [ordK_mem l f z k]
      constructor
      · rintro ⟨j, h1, h2, h3⟩; exact ⟨j, by omega, h2, h3⟩
      · rintro ⟨j, h1, h2, h3⟩
        by_cases e : j = k
        · subst e; exact absurd h3 hf
        · exact ⟨j, by omega, h2, h3⟩
theorem ordK_in {l : List Cand} {f : Int} {k : Nat} (hk : k ≤ l.length) {j : Nat} (hj : j < (ordK l f k).length) : ∃ n : Nat, (ordK l f k)[j]! = (n : Int) ∧ n < k ∧ l[n]!.f = f := by
  have hm : (ordK l f k)[j]! ∈ ordK l f k := by rw [getElem!_pos _ j hj]; exact List.getElem_mem hj
  obtain ⟨n, h1, h2, h3⟩ := (ordK_mem l f _ k).1 hm
  exact ⟨n, h2, h1, h3⟩
/-- the row while the new index looks for its place -/
def hole (acc : List Int) (m : Nat) (g : Int) : List Int := acc.take m ++ g :: acc.drop m
theorem hole_len {acc : List Int} {m : Nat} (hm : m ≤ acc.length) (g : Int) : (hole acc m g).length = acc.length + 1 := by unfold hole; simp; omega
theorem hole_set {acc : List Int} {m : Nat} (hm : m ≤ acc.length) (g u : Int) : (hole acc m g).set m u = hole acc m u := by
  unfold hole
  rw [List.set_append_right _ _ (by rw [List.length_take]; omega)]
  simp [Nat.min_eq_left hm]
theorem hole_prev {acc : List Int} {m : Nat} (h0 : 0 < m) (hm : m ≤ acc.length) (g : Int) : (hole acc m g)[m - 1]! = acc[m - 1]! := by
  have e : (acc.take m ++ g :: acc.drop m)[m - 1]? = acc[m - 1]? := by
    rw [List.getElem?_append_left (by rw [List.length_take]; omega), List.getElem?_take, if_pos (by omega)]
  unfold hole
  rw [List.getElem!_eq_getElem?_getD, List.getElem!_eq_getElem?_getD, e]
theorem hole_shift {acc : List Int} {m : Nat} (h0 : 0 < m) (hm : m ≤ acc.length) : hole acc m acc[m - 1]! = hole acc (m - 1) acc[m - 1]! := by
  obtain ⟨m, rfl⟩ : ∃ n, m = n + 1 := ⟨m - 1, by omega⟩
  unfold hole
  have hlt : m < acc.length := by omega
  simp only [Nat.add_sub_cancel]
  rw [getElem!_pos acc m hlt, List.take_succ_eq_append_getElem hlt, List.append_assoc]
  rw [List.drop_eq_getElem_cons hlt]
  rfl
set_option maxRecDepth 100000 in
set_option maxHeartbeats 4000000 in
theorem ref_ordered38 (u : Value) (l : List Cand) (f : Int) (w : World) (hl : l.length ≤ 1000) (hu : SlC w u l) :
    Calls Try.prog 38 #[u, .int .i64 f] w (fun e w' => ∃ v, e = .returned v ∧ OwnI 3 w' w.heap.size v (ordL l f) ∧ Below w.heap.size w w') := by
  obtain ⟨A, ca, rfl, hca, hR⟩ := hu
  have HR := Lib.hid hR
  clear hR
  go_enter Try.func38, Try.ntmps38
  go_wp2_with fail
  go_loopw [5, 6] (fun v i wr => ∃ k : Nat, k ≤ l.length ∧ i = .int .i64 k ∧ OwnI 3 wr w.heap.size v (ordK l f k) ∧ Below w.heap.size w wr) (fun _ i _ => l.length - (intOf i).toNat)
  case atStart => exact ⟨0, Nat.zero_le _, rfl, Own.nil _ _, Below.refl _ _⟩
  case round =>
    obtain ⟨k, hk, rfl, hown, hbw⟩ := hrel
    by_cases hlt : k < l.length
    · obtain ⟨bl, offl, rfl, hbl, HCL⟩ := Rd.rangeCs HR.out (show 0 < l.length by omega)
      have HC := Lib.hid HCL
      have g1 : wr.cell? ⟨bl, offl + k * 8, none⟩ = some (.int .i64 l[k]!.f) := by simpa using HCL wr hbw k hlt 0 _ rfl
      obtain ⟨z, hz⟩ : ∃ z, l[k]!.f = z := ⟨_, rfl⟩
      have HZ := Lib.hid hz
      rw [hz] at g1
      have hd : decide (k < l.length) = true := decide_eq_true hlt
      clear hz HCL
      have hlen := ordK_len l f k
      by_cases hzf : z = f
      rotate_left
      · have dz : (z != f) = true := by simp [hzf]
        have HE : Hid (ordK l f (k + 1) = ordK l f k) := Lib.hid (by show (if l[k]!.f = f then _ else _) = _; rw [HZ.out, if_neg hzf])
        clear hzf
        go_wp2
        go_roundw
        case rel => exact ⟨k + 1, by omega, by go_num, by rw [HE.out]; exact hown, hbw⟩
        case measure => simp [intOf]; omega
      have dz : (z != f) = false := by simp [hzf]
      have HE0 : Hid (ordK l f (k + 1) = insK l (ordK l f k) (k : Int)) := Lib.hid (by show (if l[k]!.f = f then _ else _) = _; rw [HZ.out, if_pos hzf])
      have HIN := Lib.hid (fun j hj => ordK_in (l := l) (f := f) hk (j := j) hj)
      obtain ⟨acc, hacc⟩ : ∃ acc, ordK l f k = acc := ⟨_, rfl⟩
      rw [hacc] at HE0 HIN hown hlen
      obtain ⟨A0, c0, rfl⟩ := Own.slice hown
      clear hzf hacc
      go_wp2_with (at_builtin; refine Try.appI hown (k : Int) rfl _ _ rfl rfl rfl (by omega) hbw.size ?_; clear hown; intro v1 w1 hown1 hb1)
      have hbw1 := hbw.trans hb1
      have hown2 : OwnI 3 w1 w.heap.size v1 (hole acc acc.length (k : Int)) := by unfold hole; rw [List.take_length, List.drop_length]; exact hown1
      obtain ⟨A1, c1, rfl⟩ := Own.slice hown1
      rw [show (acc ++ [(k : Int)]).length = acc.length + 1 by simp] at *
      obtain ⟨gb, capb, heb, hgb0, _, _, _, _⟩ := Mp.OwnI.at_ hown2 (k := acc.length) (by rw [hole_len (Nat.le_refl _)]; omega)
      injection heb with heb hx1 hx2
      subst heb
      obtain ⟨N, hN⟩ : ∃ N, acc.length + 1 = N := ⟨_, rfl⟩
      rw [hN] at hown2 ⊢
      clear hown1 g1 hb1 hbw dz hx1 hx2
      go_loopw [7] (fun n wr => ∃ m : Nat, ∃ hm : m ≤ acc.length, n = .int .i64 m ∧ ∃ g, OwnI 3 wr w.heap.size (.slice (some ⟨gb, 0, none⟩) N c1) (hole acc m g) ∧ Hid (∀ j, m ≤ j → j < acc.length → coI l (k : Int) < coI l acc[j]!) ∧ Below w.heap.size w wr) (fun n _ => (intOf n).toNat)
      case atStart => exact ⟨acc.length, Nat.le_refl _, rfl, _, hown2, Lib.hid (fun j h1 h2 => by omega), hbw1⟩
      case round =>
        clear hown2 hbw1
        obtain ⟨m, hm, rfl, gv, hown, hall, hbi⟩ := hrel
        have hbw : Below w.heap.size w w := Below.refl _ _
        obtain ⟨ck, hck⟩ : ∃ ck, l[k]!.co = ck := ⟨_, rfl⟩
        have HL3 := Lib.hid (fun (W : World) (hW : Below wr.heap.size wr W) => (by have := HC.out W (hbi.trans (hW.mono hbi.size)) k hlt 7 _ rfl; rwa [hck] at this : W.cell? ⟨bl, offl + k * 8 + 7, none⟩ = some (.int .i64 ck)))
        have HCK : Hid (coI l (k : Int) = ck) := Lib.hid (by unfold coI; simpa using hck)
        have hS1 : (fun W : World => Below wr.heap.size wr W) wr.drew := (Below.refl _ _).drew
        clear hck
        by_cases h0 : m = 0
        · subst h0
          have HE : Hid (ordK l f (k + 1) = hole acc 0 (k : Int)) := Lib.hid (by rw [HE0.out]; unfold insK hole; rw [posK_eq (m := 0) (by omega) (fun j h1 h2 => hall.out j h1 h2) (.inl rfl)])
          simp only [Int.natCast_zero] at *
          as_aux_lemma =>
            go_wp2_with fail
            refine wp_region_held_drew (S := fun W : World => Below wr.heap.size wr W) (by kernel_rfl) hS1 (fun hHeld => ?_)
            clear hHeld
            generalize wr.drew = wzra at *
            refine wpAnyH_take (i := 0) (oi := ⟨some 27, _, _, _, _, _⟩) (v := ?vra1) rfl (by kernel_rfl) (by kernel_rfl) (by kernel_rfl) (fun _ _ _ h => h) (Or.inl ⟨by kernel_rfl, ?hyra1⟩) (by assumption) ?restra1
            case hyra1 => (intro W hSw; (try dsimp only at hSw); go_simp; try with_reducible rfl)
            case' restra1 => try simp only [Act.put, List.setIfInBounds_toArray, List.set_cons_zero, List.set_cons_succ]
            refine wpAnyH_take (i := 1) (oi := ⟨some 28, _, _, _, _, _⟩) (v := ?vra2) rfl (by kernel_rfl) (by kernel_rfl) (by kernel_rfl) (fun _ _ _ h => h) (Or.inl ⟨by kernel_rfl, ?hyra2⟩) (by assumption) ?restra2
            case hyra2 => (intro W hSw; (try dsimp only at hSw); go_simp; try with_reducible rfl)
            case' restra2 => try simp only [Act.put, List.setIfInBounds_toArray, List.set_cons_zero, List.set_cons_succ]
            refine wpAnyH_take (i := 2) (oi := ⟨some 29, _, _, _, _, _⟩) (v := ?vra3) rfl (by kernel_rfl) (by kernel_rfl) (by kernel_rfl) (fun _ _ _ h => h) (Or.inl ⟨by kernel_rfl, ?hyra3⟩) (by assumption) ?restra3
            case hyra3 => (intro W hSw; (try dsimp only at hSw); go_simp; try with_reducible rfl)
            case' restra3 => try simp only [Act.put, List.setIfInBounds_toArray, List.set_cons_zero, List.set_cons_succ]
            refine wpAnyH_take (i := 3) (oi := ⟨some 30, _, _, _, _, _⟩) (v := undef) rfl (by kernel_rfl) (by kernel_rfl) (by kernel_rfl) (fun _ _ _ h => h) (Or.inr ⟨by kernel_rfl, rfl⟩) (by assumption) ?restra4
            case' restra4 => try simp only [Act.put, List.setIfInBounds_toArray, List.set_cons_zero, List.set_cons_succ]
            refine wpAnyH_take (i := 4) (oi := ⟨some 31, _, _, _, _, _⟩) (v := undef) rfl (by kernel_rfl) (by kernel_rfl) (by kernel_rfl) (fun _ _ _ h => h) (Or.inr ⟨by kernel_rfl, rfl⟩) (by assumption) ?restra5
            case' restra5 => try simp only [Act.put, List.setIfInBounds_toArray, List.set_cons_zero, List.set_cons_succ]
            refine wpAnyH_take (i := 5) (oi := ⟨some 32, _, _, _, _, _⟩) (v := undef) rfl (by kernel_rfl) (by kernel_rfl) (by kernel_rfl) (fun _ _ _ h => h) (Or.inr ⟨by kernel_rfl, rfl⟩) (by assumption) ?restra6
            case' restra6 => try simp only [Act.put, List.setIfInBounds_toArray, List.set_cons_zero, List.set_cons_succ]
            refine wpAnyH_take (i := 6) (oi := ⟨some 33, _, _, _, _, _⟩) (v := undef) rfl (by kernel_rfl) (by kernel_rfl) (by kernel_rfl) (fun _ _ _ h => h) (Or.inr ⟨by kernel_rfl, rfl⟩) (by assumption) ?restra7
            case' restra7 => try simp only [Act.put, List.setIfInBounds_toArray, List.set_cons_zero, List.set_cons_succ]
            refine wpAnyH_take (i := 7) (oi := ⟨some 34, _, _, _, _, _⟩) (v := undef) rfl (by kernel_rfl) (by kernel_rfl) (by kernel_rfl) (fun _ _ _ h => h) (Or.inr ⟨by kernel_rfl, rfl⟩) (by assumption) ?restra8
            case' restra8 => try simp only [Act.put, List.setIfInBounds_toArray, List.set_cons_zero, List.set_cons_succ]
            refine wpAnyH_take (i := 8) (oi := ⟨some 35, _, _, _, _, _⟩) (v := undef) rfl (by kernel_rfl) (by kernel_rfl) (by kernel_rfl) (fun _ _ _ h => h) (Or.inr ⟨by kernel_rfl, rfl⟩) (by assumption) ?restra9
            case' restra9 => try simp only [Act.put, List.setIfInBounds_toArray, List.set_cons_zero, List.set_cons_succ]
            refine wpAnyH_take (i := 9) (oi := ⟨some 36, _, _, _, _, _⟩) (v := undef) rfl (by kernel_rfl) (by kernel_rfl) (by kernel_rfl) (fun _ _ _ h => h) (Or.inr ⟨by kernel_rfl, rfl⟩) (by assumption) ?restra10
            case' restra10 => try simp only [Act.put, List.setIfInBounds_toArray, List.set_cons_zero, List.set_cons_succ]
            refine wpAnyH_take (i := 10) (oi := ⟨some 37, _, _, _, _, _⟩) (v := undef) rfl (by kernel_rfl) (by kernel_rfl) (by kernel_rfl) (fun _ _ _ h => h) (Or.inr ⟨by kernel_rfl, rfl⟩) (by assumption) ?restra11
            case' restra11 => try simp only [Act.put, List.setIfInBounds_toArray, List.set_cons_zero, List.set_cons_succ]
            refine wpAnyH_take (i := 11) (oi := ⟨some 38, _, _, _, _, _⟩) (v := undef) rfl (by kernel_rfl) (by kernel_rfl) (by kernel_rfl) (fun _ _ _ h => h) (Or.inr ⟨by kernel_rfl, rfl⟩) (by assumption) ?restra12
            case' restra12 => try simp only [Act.put, List.setIfInBounds_toArray, List.set_cons_zero, List.set_cons_succ]
            refine wpAnyH_take (i := 12) (oi := ⟨some 39, _, _, _, _, _⟩) (v := undef) rfl (by kernel_rfl) (by kernel_rfl) (by kernel_rfl) (fun _ _ _ h => h) (Or.inr ⟨by kernel_rfl, rfl⟩) (by assumption) ?restra13
            case' restra13 => try simp only [Act.put, List.setIfInBounds_toArray, List.set_cons_zero, List.set_cons_succ]
            refine wpAnyH_take (i := 13) (oi := ⟨some 40, _, _, _, _, _⟩) (v := undef) rfl (by kernel_rfl) (by kernel_rfl) (by kernel_rfl) (fun _ _ _ h => h) (Or.inr ⟨by kernel_rfl, rfl⟩) (by assumption) ?restra14
            case' restra14 => try simp only [Act.put, List.setIfInBounds_toArray, List.set_cons_zero, List.set_cons_succ]
            refine wpAnyH_take (i := 14) (oi := ⟨some 41, _, _, _, _, _⟩) (v := undef) rfl (by kernel_rfl) (by kernel_rfl) (by kernel_rfl) (fun _ _ _ h => h) (Or.inr ⟨by kernel_rfl, rfl⟩) (by assumption) ?restra15
            case' restra15 => try simp only [Act.put, List.setIfInBounds_toArray, List.set_cons_zero, List.set_cons_succ]
            refine wpAnyH_take (i := 15) (oi := ⟨some 42, _, _, _, _, _⟩) (v := undef) rfl (by kernel_rfl) (by kernel_rfl) (by kernel_rfl) (fun _ _ _ h => h) (Or.inr ⟨by kernel_rfl, rfl⟩) (by assumption) ?restra16
            case' restra16 => try simp only [Act.put, List.setIfInBounds_toArray, List.set_cons_zero, List.set_cons_succ]
            refine wpAnyH_take (i := 16) (oi := ⟨some 43, _, _, _, _, _⟩) (v := undef) rfl (by kernel_rfl) (by kernel_rfl) (by kernel_rfl) (fun _ _ _ h => h) (Or.inr ⟨by kernel_rfl, rfl⟩) (by assumption) ?restra17
            case' restra17 => try simp only [Act.put, List.setIfInBounds_toArray, List.set_cons_zero, List.set_cons_succ]
            refine wpAnyH_take (i := 17) (oi := ⟨some 44, _, _, _, _, _⟩) (v := undef) rfl (by kernel_rfl) (by kernel_rfl) (by kernel_rfl) (fun _ _ _ h => h) (Or.inr ⟨by kernel_rfl, rfl⟩) (by assumption) ?restra18
            case' restra18 => try simp only [Act.put, List.setIfInBounds_toArray, List.set_cons_zero, List.set_cons_succ]
            refine wpAnyH_take (i := 18) (oi := ⟨some 45, _, _, _, _, _⟩) (v := ?vra19) rfl (by kernel_rfl) (by kernel_rfl) (by kernel_rfl) (fun _ _ _ h => h) (Or.inl ⟨by kernel_rfl, ?hyra19⟩) (by assumption) ?restra19
            case hyra19 => (intro W hSw; (try dsimp only at hSw); go_simp; try with_reducible rfl)
            case' restra19 => try simp only [Act.put, List.setIfInBounds_toArray, List.set_cons_zero, List.set_cons_succ]
            refine wpAnyH_done (by kernel_rfl) ?_ _
            have hbi1 := hbi.trans (hS1.mono hbi.size)
            have hown1 := hown.below hS1
            try clear HL1 HL2
            clear hS1 hown hbi HL3
            generalize wzra = wq at *
            obtain ⟨gg, cap2, he, hbg, hgl, cg, cf, hst⟩ := Mp.OwnI.at_ hown1 (k := 0) (by rw [hole_len hm]; omega)
            injection he with he hx1 hx2
            clear hx1 hx2
            injection he with he
            injection he with he
            subst he
            have hset := hst (k : Int)
            rw [hole_set hm] at hset
            have HSET := Lib.hid hset
            have hlt2 : 0 < N := by omega
            clear hst hset hown1
            go_wp2
            go_roundw
            case rel => exact ⟨k + 1, by omega, by go_num, by rw [HE.out]; exact HSET.out.1, (hbw.trans (hbi1.mono hbw.size)).trans (HSET.out.2.mono (Nat.le_refl _))⟩
            case measure => simp [intOf]; omega
        · have h0 : 0 < m := by omega
          obtain ⟨p, hp, hpk, _⟩ := HIN.out (m - 1) (by omega)
          have HP := Lib.hid hp
          have e1 : IntKind.i64.wrap ((m : Int) - 1) = ((m - 1 : Nat) : Int) := by rw [IntWalk.i64_in _ (by omega)]; omega
          have d1 : decide ((0 : Int) < (m : Int)) = true := decide_eq_true (by omega)
          have d2 : decide (0 < m) = true := decide_eq_true h0
          have hpl : p < l.length := by omega
          have hml : m - 1 < N := by omega
          obtain ⟨bq, offq, hA1, hbq, HQ⟩ := RdI.cells (Own.rd encI_len hown) (show 0 < (hole acc m gv).length by rw [hole_len hm]; omega)
          injection hA1 with hA1
          injection hA1 with hA1 hA2
          subst hA1 hA2
          have HL1 := Lib.hid (fun (W : World) (hW : Below wr.heap.size wr W) => (by have := HQ W hW (m - 1) (by rw [hole_len hm]; omega); rwa [hole_prev h0 hm, hp, Nat.zero_add] at this : W.cell? ⟨gb, m - 1, none⟩ = some (.int .i64 (p : Int))))
          obtain ⟨cp, hcp⟩ : ∃ cp, l[p]!.co = cp := ⟨_, rfl⟩
          have HL2 := Lib.hid (fun (W : World) (hW : Below wr.heap.size wr W) => (by have := HC.out W (hbi.trans (hW.mono hbi.size)) p hpl 7 _ rfl; rwa [hcp] at this : W.cell? ⟨bl, offl + p * 8 + 7, none⟩ = some (.int .i64 cp)))
          have HCP : Hid (coI l acc[m - 1]! = cp) := Lib.hid (by unfold coI; rw [hp]; simpa using hcp)
          clear hp hcp HQ
          by_cases hlc : ck < cp
          · have d3 : decide (ck < cp) = true := decide_eq_true hlc
            have HALL : Hid (∀ j, m - 1 ≤ j → j < acc.length → coI l (k : Int) < coI l acc[j]!) := Lib.hid (fun j h1 h2 => by
              by_cases e : j = m - 1
              · subst e; rw [HCK.out, HCP.out]; exact hlc
              · exact hall.out j (by omega) h2)
            clear hlc
            as_aux_lemma =>
              go_wp2_with fail
              refine wp_region_held_drew (S := fun W : World => Below wr.heap.size wr W) (by kernel_rfl) hS1 (fun hHeld => ?_)
              clear hHeld
              generalize wr.drew = wzrc at *
              refine wpAnyH_take (i := 0) (oi := ⟨some 27, _, _, _, _, _⟩) (v := ?vrc1) rfl (by kernel_rfl) (by kernel_rfl) (by kernel_rfl) (fun _ _ _ h => h) (Or.inl ⟨by kernel_rfl, ?hyrc1⟩) (by assumption) ?restrc1
              case hyrc1 => (intro W hSw; (try dsimp only at hSw); go_simp; try with_reducible rfl)
              case' restrc1 => try simp only [Act.put, List.setIfInBounds_toArray, List.set_cons_zero, List.set_cons_succ]
              refine wpAnyH_take (i := 1) (oi := ⟨some 28, _, _, _, _, _⟩) (v := ?vrc2) rfl (by kernel_rfl) (by kernel_rfl) (by kernel_rfl) (fun _ _ _ h => h) (Or.inl ⟨by kernel_rfl, ?hyrc2⟩) (by assumption) ?restrc2
              case hyrc2 => (intro W hSw; (try dsimp only at hSw); go_simp; try with_reducible rfl)
              case' restrc2 => try simp only [Act.put, List.setIfInBounds_toArray, List.set_cons_zero, List.set_cons_succ]
              refine wpAnyH_take (i := 2) (oi := ⟨some 29, _, _, _, _, _⟩) (v := ?vrc3) rfl (by kernel_rfl) (by kernel_rfl) (by kernel_rfl) (fun _ _ _ h => h) (Or.inl ⟨by kernel_rfl, ?hyrc3⟩) (by assumption) ?restrc3
              case hyrc3 => (intro W hSw; (try dsimp only at hSw); go_simp; try with_reducible rfl)
              case' restrc3 => try simp only [Act.put, List.setIfInBounds_toArray, List.set_cons_zero, List.set_cons_succ]
              refine wpAnyH_take (i := 3) (oi := ⟨some 30, _, _, _, _, _⟩) (v := ?vrc4) rfl (by kernel_rfl) (by kernel_rfl) (by kernel_rfl) (fun _ _ _ h => h) (Or.inl ⟨by kernel_rfl, ?hyrc4⟩) (by assumption) ?restrc4
              case hyrc4 => (intro W hSw; (try dsimp only at hSw); go_simp; try with_reducible rfl)
              case' restrc4 => try simp only [Act.put, List.setIfInBounds_toArray, List.set_cons_zero, List.set_cons_succ]
              refine wpAnyH_take (i := 4) (oi := ⟨some 31, _, _, _, _, _⟩) (v := ?vrc5) rfl (by kernel_rfl) (by kernel_rfl) (by kernel_rfl) (fun _ _ _ h => h) (Or.inl ⟨by kernel_rfl, ?hyrc5⟩) (by assumption) ?restrc5
              case hyrc5 => (intro W hSw; (try dsimp only at hSw); go_simp; try with_reducible rfl)
              case' restrc5 => try simp only [Act.put, List.setIfInBounds_toArray, List.set_cons_zero, List.set_cons_succ]
              refine wpAnyH_take (i := 5) (oi := ⟨some 32, _, _, _, _, _⟩) (v := ?vrc6) rfl (by kernel_rfl) (by kernel_rfl) (by kernel_rfl) (fun _ _ _ h => h) (Or.inl ⟨by kernel_rfl, ?hyrc6⟩) (by assumption) ?restrc6
              case hyrc6 => (intro W hSw; (try dsimp only at hSw); go_simp; try with_reducible rfl)
              case' restrc6 => try simp only [Act.put, List.setIfInBounds_toArray, List.set_cons_zero, List.set_cons_succ]
              refine wpAnyH_take (i := 6) (oi := ⟨some 33, _, _, _, _, _⟩) (v := ?vrc7) rfl (by kernel_rfl) (by kernel_rfl) (by kernel_rfl) (fun _ _ _ h => h) (Or.inl ⟨by kernel_rfl, ?hyrc7⟩) (by assumption) ?restrc7
              case hyrc7 => (intro W hSw; (try dsimp only at hSw); go_simp; try with_reducible rfl)
              case' restrc7 => try simp only [Act.put, List.setIfInBounds_toArray, List.set_cons_zero, List.set_cons_succ]
              refine wpAnyH_take (i := 7) (oi := ⟨some 34, _, _, _, _, _⟩) (v := ?vrc8) rfl (by kernel_rfl) (by kernel_rfl) (by kernel_rfl) (fun _ _ _ h => h) (Or.inl ⟨by kernel_rfl, ?hyrc8⟩) (by assumption) ?restrc8
              case hyrc8 => (intro W hSw; (try dsimp only at hSw); go_simp; try with_reducible rfl)
              case' restrc8 => try simp only [Act.put, List.setIfInBounds_toArray, List.set_cons_zero, List.set_cons_succ]
              refine wpAnyH_take (i := 8) (oi := ⟨some 35, _, _, _, _, _⟩) (v := ?vrc9) rfl (by kernel_rfl) (by kernel_rfl) (by kernel_rfl) (fun _ _ _ h => h) (Or.inl ⟨by kernel_rfl, ?hyrc9⟩) (by assumption) ?restrc9
              case hyrc9 => (intro W hSw; have gq := HL1.out W hSw; (try dsimp only at hSw); go_simp; try with_reducible rfl)
              case' restrc9 => try simp only [Act.put, List.setIfInBounds_toArray, List.set_cons_zero, List.set_cons_succ]
              refine wpAnyH_take (i := 9) (oi := ⟨some 36, _, _, _, _, _⟩) (v := ?vrc10) rfl (by kernel_rfl) (by kernel_rfl) (by kernel_rfl) (fun _ _ _ h => h) (Or.inl ⟨by kernel_rfl, ?hyrc10⟩) (by assumption) ?restrc10
              case hyrc10 => (intro W hSw; (try dsimp only at hSw); go_simp; try with_reducible rfl)
              case' restrc10 => try simp only [Act.put, List.setIfInBounds_toArray, List.set_cons_zero, List.set_cons_succ]
              refine wpAnyH_take (i := 10) (oi := ⟨some 37, _, _, _, _, _⟩) (v := ?vrc11) rfl (by kernel_rfl) (by kernel_rfl) (by kernel_rfl) (fun _ _ _ h => h) (Or.inl ⟨by kernel_rfl, ?hyrc11⟩) (by assumption) ?restrc11
              case hyrc11 => (intro W hSw; (try dsimp only at hSw); go_simp; try with_reducible rfl)
              case' restrc11 => try simp only [Act.put, List.setIfInBounds_toArray, List.set_cons_zero, List.set_cons_succ]
              refine wpAnyH_take (i := 11) (oi := ⟨some 38, _, _, _, _, _⟩) (v := ?vrc12) rfl (by kernel_rfl) (by kernel_rfl) (by kernel_rfl) (fun _ _ _ h => h) (Or.inl ⟨by kernel_rfl, ?hyrc12⟩) (by assumption) ?restrc12
              case hyrc12 => (intro W hSw; have gq := HL2.out W hSw; (try dsimp only at hSw); go_simp; try with_reducible rfl)
              case' restrc12 => try simp only [Act.put, List.setIfInBounds_toArray, List.set_cons_zero, List.set_cons_succ]
              refine wpAnyH_take (i := 12) (oi := ⟨some 39, _, _, _, _, _⟩) (v := ?vrc13) rfl (by kernel_rfl) (by kernel_rfl) (by kernel_rfl) (fun _ _ _ h => h) (Or.inl ⟨by kernel_rfl, ?hyrc13⟩) (by assumption) ?restrc13
              case hyrc13 => (intro W hSw; (try dsimp only at hSw); go_simp; try with_reducible rfl)
              case' restrc13 => try simp only [Act.put, List.setIfInBounds_toArray, List.set_cons_zero, List.set_cons_succ]
              refine wpAnyH_take (i := 13) (oi := ⟨some 40, _, _, _, _, _⟩) (v := ?vrc14) rfl (by kernel_rfl) (by kernel_rfl) (by kernel_rfl) (fun _ _ _ h => h) (Or.inl ⟨by kernel_rfl, ?hyrc14⟩) (by assumption) ?restrc14
              case hyrc14 => (intro W hSw; (try dsimp only at hSw); go_simp; try with_reducible rfl)
              case' restrc14 => try simp only [Act.put, List.setIfInBounds_toArray, List.set_cons_zero, List.set_cons_succ]
              refine wpAnyH_take (i := 14) (oi := ⟨some 41, _, _, _, _, _⟩) (v := ?vrc15) rfl (by kernel_rfl) (by kernel_rfl) (by kernel_rfl) (fun _ _ _ h => h) (Or.inl ⟨by kernel_rfl, ?hyrc15⟩) (by assumption) ?restrc15
              case hyrc15 => (intro W hSw; (try dsimp only at hSw); go_simp; try with_reducible rfl)
              case' restrc15 => try simp only [Act.put, List.setIfInBounds_toArray, List.set_cons_zero, List.set_cons_succ]
              refine wpAnyH_take (i := 15) (oi := ⟨some 42, _, _, _, _, _⟩) (v := ?vrc16) rfl (by kernel_rfl) (by kernel_rfl) (by kernel_rfl) (fun _ _ _ h => h) (Or.inl ⟨by kernel_rfl, ?hyrc16⟩) (by assumption) ?restrc16
              case hyrc16 => (intro W hSw; (try dsimp only at hSw); go_simp; try with_reducible rfl)
              case' restrc16 => try simp only [Act.put, List.setIfInBounds_toArray, List.set_cons_zero, List.set_cons_succ]
              refine wpAnyH_take (i := 16) (oi := ⟨some 43, _, _, _, _, _⟩) (v := ?vrc17) rfl (by kernel_rfl) (by kernel_rfl) (by kernel_rfl) (fun _ _ _ h => h) (Or.inl ⟨by kernel_rfl, ?hyrc17⟩) (by assumption) ?restrc17
              case hyrc17 => (intro W hSw; have gq := HL3.out W hSw; (try dsimp only at hSw); go_simp; try with_reducible rfl)
              case' restrc17 => try simp only [Act.put, List.setIfInBounds_toArray, List.set_cons_zero, List.set_cons_succ]
              refine wpAnyH_take (i := 17) (oi := ⟨some 44, _, _, _, _, _⟩) (v := ?vrc18) rfl (by kernel_rfl) (by kernel_rfl) (by kernel_rfl) (fun _ _ _ h => h) (Or.inl ⟨by kernel_rfl, ?hyrc18⟩) (by assumption) ?restrc18
              case hyrc18 => (intro W hSw; (try dsimp only at hSw); go_simp; try with_reducible rfl)
              case' restrc18 => try simp only [Act.put, List.setIfInBounds_toArray, List.set_cons_zero, List.set_cons_succ]
              refine wpAnyH_take (i := 18) (oi := ⟨some 45, _, _, _, _, _⟩) (v := ?vrc19) rfl (by kernel_rfl) (by kernel_rfl) (by kernel_rfl) (fun _ _ _ h => h) (Or.inl ⟨by kernel_rfl, ?hyrc19⟩) (by assumption) ?restrc19
              case hyrc19 => (intro W hSw; (try dsimp only at hSw); go_simp; try with_reducible rfl)
              case' restrc19 => try simp only [Act.put, List.setIfInBounds_toArray, List.set_cons_zero, List.set_cons_succ]
              refine wpAnyH_done (by kernel_rfl) ?_ _
              have hbi1 := hbi.trans (hS1.mono hbi.size)
              have hown1 := hown.below hS1
              clear hS1 hown hbi HL1 HL2 HL3
              generalize wzrc = wq at *
              obtain ⟨gg, cap2, he, hbg, hgl, cg1, cf1, _⟩ := Mp.OwnI.at_ hown1 (k := m - 1) (by rw [hole_len hm]; omega)
              injection he with he hx1 hx2
              clear hx1 hx2
              injection he with he
              injection he with he
              subst he
              obtain ⟨gg, cap2, he, hbg, hgl, cg, cf, hst⟩ := Mp.OwnI.at_ hown1 (k := m) (by rw [hole_len hm]; omega)
              injection he with he hx1 hx2
              clear hx1 hx2
              injection he with he
              injection he with he
              subst he
              rw [hole_prev h0 hm, HP.out] at cg1
              have hset := hst (p : Int)
              rw [hole_set hm, ← HP.out, hole_shift h0 hm, HP.out] at hset
              have HSET := Lib.hid hset
              have hlt2 : m < N := by omega
              have hlt3 : m - 1 < N := by omega
              clear hst hset hown1
              go_wp2
              go_roundw
              case rel => exact ⟨m - 1, by omega, by first | rfl | go_num, _, HSET.out.1, HALL.out, hbi1.trans (HSET.out.2.mono (by omega))⟩
              case measure => simp [intOf]; omega
          · have d3 : decide (ck < cp) = false := decide_eq_false hlc
            have HE : Hid (ordK l f (k + 1) = hole acc m (k : Int)) := Lib.hid (by rw [HE0.out]; unfold insK hole; rw [posK_eq (m := m) hm (fun j h1 h2 => hall.out j h1 h2) (.inr (by rw [HCK.out, HCP.out]; exact hlc))])
            clear hlc
            as_aux_lemma =>
              go_wp2_with fail
              refine wp_region_held_drew (S := fun W : World => Below wr.heap.size wr W) (by kernel_rfl) hS1 (fun hHeld => ?_)
              clear hHeld
              generalize wr.drew = wzrb at *
              refine wpAnyH_take (i := 0) (oi := ⟨some 27, _, _, _, _, _⟩) (v := ?vrb1) rfl (by kernel_rfl) (by kernel_rfl) (by kernel_rfl) (fun _ _ _ h => h) (Or.inl ⟨by kernel_rfl, ?hyrb1⟩) (by assumption) ?restrb1
              case hyrb1 => (intro W hSw; (try dsimp only at hSw); go_simp; try with_reducible rfl)
              case' restrb1 => try simp only [Act.put, List.setIfInBounds_toArray, List.set_cons_zero, List.set_cons_succ]
              refine wpAnyH_take (i := 1) (oi := ⟨some 28, _, _, _, _, _⟩) (v := ?vrb2) rfl (by kernel_rfl) (by kernel_rfl) (by kernel_rfl) (fun _ _ _ h => h) (Or.inl ⟨by kernel_rfl, ?hyrb2⟩) (by assumption) ?restrb2
              case hyrb2 => (intro W hSw; (try dsimp only at hSw); go_simp; try with_reducible rfl)
              case' restrb2 => try simp only [Act.put, List.setIfInBounds_toArray, List.set_cons_zero, List.set_cons_succ]
              refine wpAnyH_take (i := 2) (oi := ⟨some 29, _, _, _, _, _⟩) (v := ?vrb3) rfl (by kernel_rfl) (by kernel_rfl) (by kernel_rfl) (fun _ _ _ h => h) (Or.inl ⟨by kernel_rfl, ?hyrb3⟩) (by assumption) ?restrb3
              case hyrb3 => (intro W hSw; (try dsimp only at hSw); go_simp; try with_reducible rfl)
              case' restrb3 => try simp only [Act.put, List.setIfInBounds_toArray, List.set_cons_zero, List.set_cons_succ]
              refine wpAnyH_take (i := 3) (oi := ⟨some 30, _, _, _, _, _⟩) (v := ?vrb4) rfl (by kernel_rfl) (by kernel_rfl) (by kernel_rfl) (fun _ _ _ h => h) (Or.inl ⟨by kernel_rfl, ?hyrb4⟩) (by assumption) ?restrb4
              case hyrb4 => (intro W hSw; (try dsimp only at hSw); go_simp; try with_reducible rfl)
              case' restrb4 => try simp only [Act.put, List.setIfInBounds_toArray, List.set_cons_zero, List.set_cons_succ]
              refine wpAnyH_take (i := 4) (oi := ⟨some 31, _, _, _, _, _⟩) (v := ?vrb5) rfl (by kernel_rfl) (by kernel_rfl) (by kernel_rfl) (fun _ _ _ h => h) (Or.inl ⟨by kernel_rfl, ?hyrb5⟩) (by assumption) ?restrb5
              case hyrb5 => (intro W hSw; (try dsimp only at hSw); go_simp; try with_reducible rfl)
              case' restrb5 => try simp only [Act.put, List.setIfInBounds_toArray, List.set_cons_zero, List.set_cons_succ]
              refine wpAnyH_take (i := 5) (oi := ⟨some 32, _, _, _, _, _⟩) (v := ?vrb6) rfl (by kernel_rfl) (by kernel_rfl) (by kernel_rfl) (fun _ _ _ h => h) (Or.inl ⟨by kernel_rfl, ?hyrb6⟩) (by assumption) ?restrb6
              case hyrb6 => (intro W hSw; (try dsimp only at hSw); go_simp; try with_reducible rfl)
              case' restrb6 => try simp only [Act.put, List.setIfInBounds_toArray, List.set_cons_zero, List.set_cons_succ]
              refine wpAnyH_take (i := 6) (oi := ⟨some 33, _, _, _, _, _⟩) (v := ?vrb7) rfl (by kernel_rfl) (by kernel_rfl) (by kernel_rfl) (fun _ _ _ h => h) (Or.inl ⟨by kernel_rfl, ?hyrb7⟩) (by assumption) ?restrb7
              case hyrb7 => (intro W hSw; (try dsimp only at hSw); go_simp; try with_reducible rfl)
              case' restrb7 => try simp only [Act.put, List.setIfInBounds_toArray, List.set_cons_zero, List.set_cons_succ]
              refine wpAnyH_take (i := 7) (oi := ⟨some 34, _, _, _, _, _⟩) (v := ?vrb8) rfl (by kernel_rfl) (by kernel_rfl) (by kernel_rfl) (fun _ _ _ h => h) (Or.inl ⟨by kernel_rfl, ?hyrb8⟩) (by assumption) ?restrb8
              case hyrb8 => (intro W hSw; (try dsimp only at hSw); go_simp; try with_reducible rfl)
              case' restrb8 => try simp only [Act.put, List.setIfInBounds_toArray, List.set_cons_zero, List.set_cons_succ]
              refine wpAnyH_take (i := 8) (oi := ⟨some 35, _, _, _, _, _⟩) (v := ?vrb9) rfl (by kernel_rfl) (by kernel_rfl) (by kernel_rfl) (fun _ _ _ h => h) (Or.inl ⟨by kernel_rfl, ?hyrb9⟩) (by assumption) ?restrb9
              case hyrb9 => (intro W hSw; have gq := HL1.out W hSw; (try dsimp only at hSw); go_simp; try with_reducible rfl)
              case' restrb9 => try simp only [Act.put, List.setIfInBounds_toArray, List.set_cons_zero, List.set_cons_succ]
              refine wpAnyH_take (i := 9) (oi := ⟨some 36, _, _, _, _, _⟩) (v := ?vrb10) rfl (by kernel_rfl) (by kernel_rfl) (by kernel_rfl) (fun _ _ _ h => h) (Or.inl ⟨by kernel_rfl, ?hyrb10⟩) (by assumption) ?restrb10
              case hyrb10 => (intro W hSw; (try dsimp only at hSw); go_simp; try with_reducible rfl)
              case' restrb10 => try simp only [Act.put, List.setIfInBounds_toArray, List.set_cons_zero, List.set_cons_succ]
              refine wpAnyH_take (i := 10) (oi := ⟨some 37, _, _, _, _, _⟩) (v := ?vrb11) rfl (by kernel_rfl) (by kernel_rfl) (by kernel_rfl) (fun _ _ _ h => h) (Or.inl ⟨by kernel_rfl, ?hyrb11⟩) (by assumption) ?restrb11
              case hyrb11 => (intro W hSw; (try dsimp only at hSw); go_simp; try with_reducible rfl)
              case' restrb11 => try simp only [Act.put, List.setIfInBounds_toArray, List.set_cons_zero, List.set_cons_succ]
              refine wpAnyH_take (i := 11) (oi := ⟨some 38, _, _, _, _, _⟩) (v := ?vrb12) rfl (by kernel_rfl) (by kernel_rfl) (by kernel_rfl) (fun _ _ _ h => h) (Or.inl ⟨by kernel_rfl, ?hyrb12⟩) (by assumption) ?restrb12
              case hyrb12 => (intro W hSw; have gq := HL2.out W hSw; (try dsimp only at hSw); go_simp; try with_reducible rfl)
              case' restrb12 => try simp only [Act.put, List.setIfInBounds_toArray, List.set_cons_zero, List.set_cons_succ]
              refine wpAnyH_take (i := 12) (oi := ⟨some 39, _, _, _, _, _⟩) (v := ?vrb13) rfl (by kernel_rfl) (by kernel_rfl) (by kernel_rfl) (fun _ _ _ h => h) (Or.inl ⟨by kernel_rfl, ?hyrb13⟩) (by assumption) ?restrb13
              case hyrb13 => (intro W hSw; (try dsimp only at hSw); go_simp; try with_reducible rfl)
              case' restrb13 => try simp only [Act.put, List.setIfInBounds_toArray, List.set_cons_zero, List.set_cons_succ]
              refine wpAnyH_take (i := 13) (oi := ⟨some 40, _, _, _, _, _⟩) (v := ?vrb14) rfl (by kernel_rfl) (by kernel_rfl) (by kernel_rfl) (fun _ _ _ h => h) (Or.inl ⟨by kernel_rfl, ?hyrb14⟩) (by assumption) ?restrb14
              case hyrb14 => (intro W hSw; (try dsimp only at hSw); go_simp; try with_reducible rfl)
              case' restrb14 => try simp only [Act.put, List.setIfInBounds_toArray, List.set_cons_zero, List.set_cons_succ]
              refine wpAnyH_take (i := 14) (oi := ⟨some 41, _, _, _, _, _⟩) (v := ?vrb15) rfl (by kernel_rfl) (by kernel_rfl) (by kernel_rfl) (fun _ _ _ h => h) (Or.inl ⟨by kernel_rfl, ?hyrb15⟩) (by assumption) ?restrb15
              case hyrb15 => (intro W hSw; (try dsimp only at hSw); go_simp; try with_reducible rfl)
              case' restrb15 => try simp only [Act.put, List.setIfInBounds_toArray, List.set_cons_zero, List.set_cons_succ]
              refine wpAnyH_take (i := 15) (oi := ⟨some 42, _, _, _, _, _⟩) (v := ?vrb16) rfl (by kernel_rfl) (by kernel_rfl) (by kernel_rfl) (fun _ _ _ h => h) (Or.inl ⟨by kernel_rfl, ?hyrb16⟩) (by assumption) ?restrb16
              case hyrb16 => (intro W hSw; (try dsimp only at hSw); go_simp; try with_reducible rfl)
              case' restrb16 => try simp only [Act.put, List.setIfInBounds_toArray, List.set_cons_zero, List.set_cons_succ]
              refine wpAnyH_take (i := 16) (oi := ⟨some 43, _, _, _, _, _⟩) (v := ?vrb17) rfl (by kernel_rfl) (by kernel_rfl) (by kernel_rfl) (fun _ _ _ h => h) (Or.inl ⟨by kernel_rfl, ?hyrb17⟩) (by assumption) ?restrb17
              case hyrb17 => (intro W hSw; have gq := HL3.out W hSw; (try dsimp only at hSw); go_simp; try with_reducible rfl)
              case' restrb17 => try simp only [Act.put, List.setIfInBounds_toArray, List.set_cons_zero, List.set_cons_succ]
              refine wpAnyH_take (i := 17) (oi := ⟨some 44, _, _, _, _, _⟩) (v := ?vrb18) rfl (by kernel_rfl) (by kernel_rfl) (by kernel_rfl) (fun _ _ _ h => h) (Or.inl ⟨by kernel_rfl, ?hyrb18⟩) (by assumption) ?restrb18
              case hyrb18 => (intro W hSw; (try dsimp only at hSw); go_simp; try with_reducible rfl)
              case' restrb18 => try simp only [Act.put, List.setIfInBounds_toArray, List.set_cons_zero, List.set_cons_succ]
              refine wpAnyH_take (i := 18) (oi := ⟨some 45, _, _, _, _, _⟩) (v := ?vrb19) rfl (by kernel_rfl) (by kernel_rfl) (by kernel_rfl) (fun _ _ _ h => h) (Or.inl ⟨by kernel_rfl, ?hyrb19⟩) (by assumption) ?restrb19
              case hyrb19 => (intro W hSw; (try dsimp only at hSw); go_simp; try with_reducible rfl)
              case' restrb19 => try simp only [Act.put, List.setIfInBounds_toArray, List.set_cons_zero, List.set_cons_succ]
              refine wpAnyH_done (by kernel_rfl) ?_ _
              have hbi1 := hbi.trans (hS1.mono hbi.size)
              have hown1 := hown.below hS1
              try clear HL1 HL2
              clear hS1 hown hbi HL3
              generalize wzrb = wq at *
              obtain ⟨gg, cap2, he, hbg, hgl, cg, cf, hst⟩ := Mp.OwnI.at_ hown1 (k := m) (by rw [hole_len hm]; omega)
              injection he with he hx1 hx2
              clear hx1 hx2
              injection he with he
              injection he with he
              subst he
              have hset := hst (k : Int)
              rw [hole_set hm] at hset
              have HSET := Lib.hid hset
              have hlt2 : m < N := by omega
              clear hst hset hown1
              go_wp2
              go_roundw
              case rel => exact ⟨k + 1, by omega, by go_num, by rw [HE.out]; exact HSET.out.1, (hbw.trans (hbi1.mono hbw.size)).trans (HSET.out.2.mono (Nat.le_refl _))⟩
              case measure => simp [intOf]; omega
    · obtain rfl : k = l.length := by omega
      have hd : decide (l.length < l.length) = false := decide_eq_false (by omega)
      go_wp2
      go_ret
      exact ⟨_, rfl, hown, hbw⟩
end Go.Proofs
/- The reference's Greedy. -/
set_option linter.unusedVariables false
set_option linter.unusedSimpArgs false
namespace Go.Proofs
open Go.RowKit Go.Proofs.Mp Go.Proofs.Uf

theorem getMem {l : List Int} {i : Nat} (h : i < l.length) : l[i]! ∈ l := by rw [getElem!_pos l i h]; exact List.getElem_mem h
def grStep (l : List Cand) (acc : List Int) (f : Int) : List Int := match (ordL l f).find? (fitsB l acc) with | some i => acc ++ [i] | none => acc
def grK (l : List Cand) (F : List Int) (k : Nat) : List Int := (F.take k).foldl (grStep l) []
def greedyR (l : List Cand) (order : List Int) : List Int := (distL order).foldl (grStep l) []
def greedyL (l : List Cand) (order : List Int) : List Int := setL (greedyR l order)
theorem grK_succ (l : List Cand) {F : List Int} {k : Nat} (h : k < F.length) : grK l F (k + 1) = grStep l (grK l F k) F[k]! := foldl_take_succ _ _ _ _ h
theorem grK_all (l : List Cand) (order : List Int) : grK l (distL order) (distL order).length = greedyR l order := by unfold grK greedyR; rw [List.take_length]
theorem ordL_mem {l : List Cand} {f z : Int} (h : z ∈ ordL l f) : inB l.length z = true ∧ l[z.toNat]!.f = f := by
  obtain ⟨j, h1, rfl, h3⟩ := (ordK_mem l f z l.length).1 h
  exact ⟨inB_iff.2 ⟨by omega, by omega⟩, by simpa using h3⟩
theorem grStep_cases (l : List Cand) (acc : List Int) (f : Int) : grStep l acc f = acc ∨ ∃ i, i ∈ ordL l f ∧ fitsB l acc i = true ∧ grStep l acc f = acc ++ [i] := by
  unfold grStep
  split
  · rename_i i hi
    exact .inr ⟨i, List.mem_of_find?_eq_some hi, List.find?_some hi, rfl⟩
  · exact .inl rfl
theorem grK_len (l : List Cand) (F : List Int) : ∀ k, k ≤ F.length → (grK l F k).length ≤ k
  | 0, _ => by simp [grK]
  | k + 1, h => by
    have ih := grK_len l F k (by omega)
    rw [grK_succ l (by omega)]
    rcases grStep_cases l (grK l F k) F[k]! with e | ⟨i, _, _, e⟩
    · rw [e]; omega
    · rw [e]; simp; omega
theorem grK_in (l : List Cand) (F : List Int) : ∀ k, k ≤ F.length → ∀ x ∈ grK l F k, inB l.length x = true
  | 0, _ => by simp [grK]
  | k + 1, h => by
    have ih := grK_in l F k (by omega)
    rw [grK_succ l (by omega)]
    rcases grStep_cases l (grK l F k) F[k]! with e | ⟨i, hi, _, e⟩
    · rw [e]; exact ih
    · rw [e]
      intro x hx
      rcases List.mem_append.1 hx with hx | hx
      · exact ih x hx
      · rw [List.mem_singleton.1 hx]; exact (ordL_mem hi).1
theorem find_at {p : Int → Bool} : ∀ {r : List Int} {k : Nat}, k < r.length → (∀ j, j < k → p r[j]! = false) → p r[k]! = true → r.find? p = some r[k]!
  | [], k, h, _, _ => by simp at h
  | y :: r, 0, h, h1, h2 => by
    have h2' : p y = true := by simpa using h2
    rw [List.find?_cons_of_pos h2']; simp
  | y :: r, k + 1, h, h1, h2 => by
    have h0 : ¬ p y = true := by have := h1 0 (by omega); simpa using this
    rw [List.find?_cons_of_neg h0, find_at (by simpa using h) (fun j hj => by simpa using h1 (j + 1) (by omega)) (by simpa using h2)]
    simp
theorem find_no {p : Int → Bool} {r : List Int} (h : ∀ j, j < r.length → p r[j]! = false) : r.find? p = none := by
  rw [List.find?_eq_none]
  intro x hx
  obtain ⟨j, hj, rfl⟩ := List.mem_iff_getElem.1 hx
  have := h j hj
  rw [getElem!_pos r j hj] at this
  simp [this]
theorem ordL_len (l : List Cand) (f : Int) : (ordL l f).length ≤ l.length := ordK_len l f _

set_option maxRecDepth 100000 in
set_option maxHeartbeats 4000000 in
theorem ref_greedy (u v : Value) (l : List Cand) (order : List Int) (w : World) (hl : l.length ≤ 1000) (ho : order.length ≤ 1000) (hu : SlC w u l) (hv : SlI w v order) :
    Calls Try.prog 19 #[u, v] w (PostS w (greedyL l order)) := by
  have hdl := distL_len order
  have CF := Lib.hid (ref_features49 v order w ho hv)
  have CO := Lib.hid (fun (W : World) (hb : Below w.heap.size w W) (f : Int) => ref_ordered38 u l f W hl (hu.below hb))
  have CT := Lib.hid (fun (W : World) (hb : Below w.heap.size w W) (z : Value) (ch : List Int) (n : Nat) (hc : ch.length ≤ 1000) (hn : n < l.length) (hin : inAll l ch) (hz : SlI W z ch) => ref_fits u z l ch n W hl hc hn hin (hu.below hb) hz)
  have HG := Lib.hid (grK_all l order)
  have HGL : Hid (greedyL l order = setL (greedyR l order)) := Lib.hid rfl
  generalize greedyL l order = res at *
  generalize greedyR l order = gr at *
  generalize distL order = F at *
  obtain ⟨A, ca, rfl, hca, hR⟩ := hu
  clear hv hR
  go_enter Try.func19, Try.ntmps19
  go_wp2_with fail
  refine CF.out.mono ?_
  rintro e w1 ⟨vF, rfl, hF, hb1⟩
  clear CF
  obtain ⟨AF, cF, rfl, hcF, hRF⟩ := hF.sl
  have HRF := Lib.hid hRF
  clear hF hRF
  go_wp2_with fail
  go_loopw [5, 7] (fun c i wr => ∃ k : Nat, k ≤ F.length ∧ i = .int .i64 k ∧ OwnI 3 wr w1.heap.size c (grK l F k) ∧ Below w.heap.size w wr ∧ Below w1.heap.size w1 wr) (fun _ i _ => F.length - (intOf i).toNat)
  case atStart => exact ⟨0, Nat.zero_le _, rfl, Own.nil _ _, hb1, Below.refl _ _⟩
  case round =>
    have hws : w.heap.size ≤ w1.heap.size := hb1.size
    clear hb1
    obtain ⟨k, hk, rfl, hown, hbw, hbx⟩ := hrel
    have hlen := grK_len l F k hk
    by_cases hlt : k < F.length
    · obtain ⟨b, off, rfl, hb, g1⟩ := RdI.get HRF.out hbx hlt
      obtain ⟨y, hy⟩ : ∃ y, F[k]! = y := ⟨_, rfl⟩
      have HSU := Lib.hid (grK_succ l hlt)
      have HIN : Hid (inAll l (grK l F k)) := Lib.hid (inAll_iff.2 (grK_in l F k hk))
      rw [hy] at g1 HSU
      obtain ⟨acc, hacc⟩ : ∃ acc, grK l F k = acc := ⟨_, rfl⟩
      rw [hacc] at hown HSU HIN hlen
      have hd : decide (k < F.length) = true := decide_eq_true hlt
      clear hy hacc
      go_wp2_with fail
      refine (CO.out wr hbw y).mono ?_
      rintro e w2 ⟨vO, rfl, hO, hb2⟩
      have hown2 := hown.below hb2
      have hbw2 := hbw.trans (hb2.mono hbw.size)
      have hbx2 := hbx.trans (hb2.mono hbx.size)
      have hsz2 := hbx2.size
      have hol := ordL_len l y
      have HOM := Lib.hid (fun (j : Nat) (hj : j < (ordL l y).length) => (ordL_mem (getMem hj)).1)
      have HST : Hid (grK l F (k + 1) = match (ordL l y).find? (fitsB l acc) with | some i => acc ++ [i] | none => acc) := HSU
      obtain ⟨AO, cO, rfl, hcO, hRO⟩ := hO.sl
      have HRO := Lib.hid hRO
      clear hown hbw hbx hb2 g1 hO hRO HSU
      generalize ordL l y = O at *
      obtain ⟨c0, hc0⟩ : ∃ c0, acc.length ≤ 1000 ∧ c0 = 0 := ⟨0, by omega, rfl⟩
      have hac : acc.length ≤ 1000 := by omega
      clear hc0 c0
      go_wp2_with fail
      go_loopw [5, 9, 10] (fun c d i wr => ∃ m : Nat, m ≤ O.length ∧ i = .int .i64 m ∧ Below w.heap.size w wr ∧ Below w1.heap.size w1 wr ∧ ((d = .bool false ∧ OwnI 3 wr w1.heap.size c acc ∧ Below w2.heap.size w2 wr ∧ Hid (∀ j, j < m → fitsB l acc O[j]! = false)) ∨ (d = .bool true ∧ OwnI 3 wr w1.heap.size c (grK l F (k + 1))))) (fun _ d i _ => O.length - (intOf i).toNat)
      case atStart => exact ⟨0, Nat.zero_le _, rfl, hbw2, hbx2, .inl ⟨rfl, hown2, Below.refl _ _, Lib.hid (fun j hj => by omega)⟩⟩
      case round =>
        clear hown2 hbw2 hbx2 hsz2
        obtain ⟨m, hm, rfl, hbw, hbx, hcase⟩ := hrel
        have hsz := hbx.size
        by_cases hlm : m < O.length
        · have hd2 : decide (m < O.length) = true := decide_eq_true hlm
          rcases hcase with ⟨rfl, hown, hby, hno⟩ | ⟨rfl, hown⟩
          rotate_left
          · obtain ⟨A0, c0, rfl⟩ := Own.slice hown
            go_wp2
            go_roundw
            case rel => exact ⟨k + 1, by omega, by go_num, hown, hbw, hbx⟩
            case measure => simp [intOf]; omega
          obtain ⟨bo, offo, rfl, hbo, HCO⟩ := RdI.cells HRO.out (show 0 < O.length by omega)
          obtain ⟨n, hn, hnl⟩ := inB_nat (HOM.out m hlm)
          have HCC := Lib.hid (fun (W : World) (hW : Below w2.heap.size w2 W) => (by have := HCO W hW m hlm; rwa [hn] at this : W.cell? ⟨bo, offo + m, none⟩ = some (.int .i64 (n : Int))))
          have HN := Lib.hid hn
          have g2 := HCC.out wr hby
          have hsl := hown.sl
          obtain ⟨A0, c0, rfl⟩ := Own.slice hown
          clear hn HCO
          go_wp2_with fail
          refine (CT.out wr hbw _ acc n hac hnl HIN.out hsl).mono ?_
          rintro e w3 ⟨rfl, hb3⟩
          have hown3 := hown.below hb3
          have hbw3 := hbw.trans (hb3.mono hbw.size)
          have hbx3 := hbx.trans (hb3.mono hbx.size)
          have hby3 := hby.trans (hb3.mono hby.size)
          have g3 := HCC.out w3 hby3
          have hsz3 := hbx3.size
          obtain ⟨p, hp⟩ : ∃ p, fitsB l acc (n : Int) = p := ⟨_, rfl⟩
          have HP := Lib.hid hp
          rw [hp]
          clear hown hbw hbx hby hb3 hsl g2 hp hsz
          cases p
          · go_wp2
            go_roundw
            case rel => exact ⟨m + 1, by omega, by go_num, hbw3, hbx3, .inl ⟨rfl, hown3, hby3, Lib.hid (fun j hj => by
              rcases Nat.lt_succ_iff_lt_or_eq.1 hj with h2 | rfl
              · exact hno.out j h2
              · rw [HN.out]; exact HP.out)⟩⟩
            case measure => simp [intOf]; omega
          · have HE : Hid (grK l F (k + 1) = acc ++ [(n : Int)]) := Lib.hid (by rw [HST.out, find_at hlm hno.out (by rw [HN.out]; exact HP.out), HN.out])
            go_wp2_with (at_builtin; refine Try.appI hown3 (n : Int) rfl _ _ rfl rfl rfl (by omega) hsz3 ?_; clear hown3; intro v4 w4 hown4 hb4)
            go_roundw
            case rel => exact ⟨m + 1, by omega, by go_num, hbw3.trans (hb4.mono (by omega)), hbx3.trans hb4, .inr ⟨rfl, by rw [HE.out]; exact hown4⟩⟩
            case measure => simp [intOf]; omega
        · obtain rfl : m = O.length := by omega
          have hd2 : decide (O.length < O.length) = false := decide_eq_false (by omega)
          rcases hcase with ⟨rfl, hown, _, hno⟩ | ⟨rfl, hown⟩
          · have HE : Hid (grK l F (k + 1) = acc) := Lib.hid (by rw [HST.out, find_no hno.out])
            rw [← HE.out] at hown
            clear hno
            obtain ⟨A0, c0, rfl⟩ := Own.slice hown
            go_wp2
            go_roundw
            case rel => exact ⟨k + 1, by omega, by go_num, hown, hbw, hbx⟩
            case measure => simp [intOf]; omega
          · obtain ⟨A0, c0, rfl⟩ := Own.slice hown
            go_wp2
            go_roundw
            case rel => exact ⟨k + 1, by omega, by go_num, hown, hbw, hbx⟩
            case measure => simp [intOf]; omega
    · obtain rfl : k = F.length := by omega
      have hd : decide (F.length < F.length) = false := decide_eq_false (by omega)
      rw [HG.out] at hown hlen
      have hsl := hown.sl
      go_wp2_with fail
      refine (k_rnormal hsl (by omega)).mono ?_
      rintro e w2 ⟨vr, rfl, hsr, hb2⟩
      have hbr := hbw.trans (hb2.mono hbw.size)
      clear hsl hb2 hown hbw hbx
      go_wp2
      go_ret
      exact ⟨_, rfl, by rw [HGL.out]; exact hsr, hbr⟩
end Go.Proofs
