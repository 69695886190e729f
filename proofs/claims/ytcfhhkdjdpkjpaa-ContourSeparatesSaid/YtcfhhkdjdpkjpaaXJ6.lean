/- The sort of the chains. -/
import Derived.Test.YtcfhhkdjdpkjpaaXJ5
import Derived.Test.YtcfhhkdjdpkjpaaXShelf
import Derived.Shelf.SlSortCmp.Whole1
import Derived.Shelf.SlSortCmp.NoneTotal
set_option linter.unusedVariables false
set_option linter.unusedSimpArgs false
namespace Go.Proofs
open Go.RowKit Go.Proofs.Mp Go.Sort Go.Lib

set_option maxRecDepth 100000 in
set_option maxHeartbeats 1000000 in
theorem con_cmp (g1 g2 n1 n2 c1 c2 : Nat) (a b : Int) (w : World) (h1 : w.cell? ⟨g1, 0, none⟩ = some (.int .i64 a)) (h2 : w.cell? ⟨g2, 0, none⟩ = some (.int .i64 b)) (hn1 : 0 < n1) (hn2 : 0 < n2) :
    Calls Try.prog 72 #[.slice (some ⟨g1, 0, none⟩) n1 c1, .slice (some ⟨g2, 0, none⟩) n2 c2] w (fun e w' => e = .returned (.int .i64 (Lib.compareInt a b)) ∧ ∃ q, w' = w.drewN q) := by
  have cC := Lib.hid fun W => Try.cmp_Compare_int a b W
  have q1 : (0 : Int) < (n1 : Int) := by omega
  have q2 : (0 : Int) < (n2 : Int) := by omega
  generalize Lib.compareInt a b = r at *
  go_enter Try.func72, Try.ntmps72
  go_upto_region 1 with fail
  go_quiet (first | (go_at_call 73; exact Calls.quiet_of_same (cC.out _)))
  go_wp2
  go_ret
  exact ⟨rfl, _, rfl⟩

abbrev Ix (n : Nat) : Type := {k : Nat // k < n}
def encW (vs : List Value) (x : Ix vs.length) : Value := vs[x.1]!
theorem compareInt_neg (a b : Int) : Lib.compareInt a b < 0 ↔ a < b := by
  unfold Lib.compareInt
  split
  · omega
  · split <;> omega
theorem ltW {n : Nat} (key : Nat → Int) (x y : Ix n) : ltOf (fun x y : Ix n => Lib.compareInt (key x.1) (key y.1)) x y = true ↔ key x.1 < key y.1 := by
  unfold ltOf; rw [decide_eq_true_iff]; exact compareInt_neg _ _
theorem ltW' {n : Nat} (key : Nat → Int) (x y : Ix n) : ltOf (fun x y : Ix n => Lib.compareInt (key x.1) (key y.1)) x y = false ↔ ¬ key x.1 < key y.1 := by
  rw [← Bool.not_eq_true, ltW]
theorem swoW {n : Nat} (key : Nat → Int) : SWO (ltOf fun x y : Ix n => Lib.compareInt (key x.1) (key y.1)) where
  irrefl x := (ltW' key x x).2 (by omega)
  trans x y z h1 h2 := (ltW key x z).2 (Int.lt_trans ((ltW key x y).1 h1) ((ltW key y z).1 h2))
  ntrans x y z h1 h2 := by
    rw [ltW'] at *
    omega
theorem sortWorld_grown {α : Type} [Inhabited α] {enc : α → Value} {w : World} {g n : Nat} {d : Array α} {os : Array Obj} : w.grownBy (sortWorld enc w g 0 n d os) (some g) := by
  unfold sortWorld
  refine ⟨rfl, rfl, rfl, by simp [putRow, mapBlock], fun k hk hne => ?_⟩
  rw [heap_grow_old _ _ (by simp [putRow, mapBlock]; exact hk)]
  simp only [putRow, mapBlock, Array.getElem?_modify]
  rw [if_neg (fun e => hne (by rw [e]))]
  rfl
theorem Try.laysSort1 : Go.Proofs.SlLaysF.n6 Try.prog Try.laysSort_ren := { Try.laysSort with a24 := Try.isAgg75, z24 := Try.sizeOf75 }
/-- the value v is a slice of slices that read as the rows in L -/
def ChD (w : World) (v : Value) (L : List (List Int)) : Prop :=
  ∃ (A : Option Addr) (c : Nat) (vs : List Value), v = .slice A L.length c ∧ vs.length = L.length ∧ Rd 1 encV w A vs ∧ ∀ i, i < vs.length → ∃ A' c', vs[i]! = .slice A' L[i]!.length c' ∧ RdI w A' L[i]!
theorem ChD.below {w w' : World} {v : Value} {L : List (List Int)} (h : ChD w v L) (hb : Below w.heap.size w w') : ChD w' v L := by
  obtain ⟨A, c, vs, h1, h2, h3, h4⟩ := h
  refine ⟨A, c, vs, h1, h2, h3.below hb, fun i hi => ?_⟩
  obtain ⟨A', c', g1, g2⟩ := h4 i hi
  exact ⟨A', c', g1, g2.below hb⟩

set_option maxHeartbeats 1000000 in
theorem con_sort (w : World) (base : Nat) (vl : Value) (L : List (List Int)) (h : ChR w base vl L) (hne : ∀ i, i < L.length → L[i]! ≠ []) (hlen : L.length ≤ 1000000) :
    Calls Try.prog 71 #[vl, .func (.func 72) #[] #[]] w (fun e w' => e = .returned (.tuple #[]) ∧ ∃ L', L'.Perm L ∧ L'.Pairwise (fun a b => a[0]! ≤ b[0]!) ∧ ChD w' vl L' ∧ w.grownBy w' vl.ownBlock) := by
  obtain ⟨vs, h1, h2, h3⟩ := h
  by_cases hn : 0 < L.length
  rotate_left
  · obtain rfl : L = [] := List.length_eq_zero_iff.1 (by omega)
    obtain ⟨A, c, rfl⟩ := Own.slice h2
    have h0 : vs.length = 0 := by rw [h1]; rfl
    have hcon := AnyF.slices_SortFunc_none Try.laysSort A c (.func (.func 72) #[] #[]) w
    change Calls Try.prog 71 _ _ _ at hcon
    rw [h0]
    refine hcon.mono ?_
    rintro e w' ⟨he, rfl⟩
    exact ⟨he, [], List.Perm.refl _, List.Pairwise.nil, ⟨A, c, [], rfl, rfl, Rd.nil _, fun i hi => by simp at hi⟩, grown_drewN w' 0 _⟩
  · have h2' := h2
    rcases h2.2 with ⟨rfl, h0⟩ | ⟨g, cap, cur, rfl, hb, hh, hnc, _⟩
    · omega
    · have hgl : g < w.heap.size := (World.ownsRow.lt h2' g rfl).2
      letI : Inhabited (Ix vs.length) := ⟨⟨0, by omega⟩⟩
      have eg : ∀ args w, (callFunc 72 args).run Try.prog w = .ok (.enter 72 args) w := enters_of Try.func72 (by kernel_rfl) rfl
      obtain ⟨zs, hzs⟩ : ∃ zs : Array (Ix vs.length), zs = Array.ofFn (fun i : Fin vs.length => (⟨i.1, i.2⟩ : Ix vs.length)) := ⟨_, rfl⟩
      have hsz : zs.size = vs.length := by rw [hzs]; simp
      have hget : ∀ j (hj : j < vs.length), zs[j]! = ⟨j, hj⟩ := fun j hj => by
        rw [getElem!_pos zs j (by omega)]
        simp [hzs]
      have hRd := Own.rd encV_len h2'
      have hcell : ∀ W, Below w.heap.size w W → ∀ j, j < vs.length → W.cell? ⟨g, j, none⟩ = some vs[j]! := by
        intro W hW j hj
        rcases hRd with he | ⟨b, off, he, hb0, hc⟩
        · rw [he] at hj; simp at hj
        · injection he with he
          injection he with e1 e2
          subst e1 e2
          have := hc j hj 0 vs[j]! rfl
          rw [Nat.mul_one, Nat.add_zero, Nat.zero_add] at this
          exact (hW.cell (p := ⟨g, j, none⟩) hgl).trans this
      have hH : Holds (encW vs) w g 0 zs := by
        intro j hj
        rw [Nat.zero_add, hget j (by omega)]
        exact ⟨hcell w (Below.refl _ _) j (by omega), World.ownsRow.frozenAt h2' j⟩
      have hone : OneCell (encW vs) := fun x => by
        obtain ⟨g', cap', g1, _⟩ := h3 x.1 x.2
        unfold encW
        rw [g1]
        rfl
      have hcmp : CmpLays1 Try.prog 72 #[] (encW vs) (fun x y : Ix vs.length => Lib.compareInt L[x.1]![0]! L[y.1]![0]!) g 0 zs.size w := by
        intro m os dk _ x y
        have hg := sortWorld_grown (enc := encW vs) (w := w) (g := g) (n := m) (d := dk) (os := os)
        obtain ⟨gx, cx, x1, x2, x3, x4, x5⟩ := h3 x.1 x.2
        obtain ⟨gy, cy, y1, y2, y3, y4, y5⟩ := h3 y.1 y.2
        have hxl : 0 < L[x.1]!.length := List.length_pos_iff.2 (hne x.1 (by have := x.2; omega))
        have hyl : 0 < L[y.1]!.length := List.length_pos_iff.2 (hne y.1 (by have := y.2; omega))
        have key : ∀ (q : Nat) (xs : List Int), 0 < xs.length → q < w.heap.size → some g ≠ some q → RdI w (some ⟨q, 0, none⟩) xs → (sortWorld (encW vs) w g 0 m dk os).cell? ⟨q, 0, none⟩ = some (.int .i64 xs[0]!) := by
          intro q xs hx hq hne hR
          have hR' := RdI.grown hR hg hq hne
          rcases hR' with he | ⟨b, off, he, hb0, hc⟩
          · rw [he] at hx; simp at hx
          · injection he with he
            injection he with e1 e2
            subst e1 e2
            have := hc 0 hx 0 (.int .i64 xs[0]!) rfl
            simpa using this
        have e1 : encW vs x = .slice (some ⟨gx, 0, none⟩) L[x.1]!.length cx := x1
        have e2 : encW vs y = .slice (some ⟨gy, 0, none⟩) L[y.1]!.length cy := y1
        rw [e1, e2]
        refine (con_cmp gx gy _ _ cx cy L[x.1]![0]! L[y.1]![0]! _ (key gx _ hxl x3 x4 x5) (key gy _ hyl y3 y4 y5) hxl hyl).mono ?_
        rintro e w' ⟨he, q, rfl⟩
        exact ⟨he, q, #[], by rw [grow_empty]⟩
      have hcon := Any.slices_SortFunc Try.laysSort1 (encW vs) hone (fun x y => Lib.compareInt L[x.1]![0]! L[y.1]![0]!) (swoW fun i => L[i]![0]!) 72 #[] g 0 cap zs w eg hcmp hH hgl (by omega)
      change Calls Try.prog 71 _ _ _ at hcon
      rw [hsz] at hcon
      refine hcon.mono ?_
      rintro e w' ⟨he, d', n, os, hp, hs, rfl⟩
      obtain ⟨hp1, hp2, hp3⟩ := hp
      have hd : d'.size = vs.length := by rw [hp1, hsz]
      have hxx : ∀ (q : Array (Ix vs.length)) N, N = q.size → (q.extract 0 N).toList = q.toList := by rintro q _ rfl; simp
      have hx := hxx d' _ hd.symm
      have hy := hxx zs _ hsz.symm
      rw [hx, hy] at hp3
      have hg := sortWorld_grown (enc := encW vs) (w := w) (g := g) (n := n) (d := d') (os := os)
      have h4 : Holds (encW vs) (sortWorld (encW vs) w g 0 n d' os) g 0 d' := by
        unfold sortWorld
        exact holds_grow _ _ _ _ _ _ (by simp [putRow, mapBlock]; exact hgl) (holds_putRow _ _ _ _ zs d' (holds_ahead _ _ _ _ _ _ hH) (by rw [hd, hsz]))
      have hL : L = zs.toList.map fun x => L[x.1]! := by
        apply List.ext_getElem
        · simp [hsz, h1]
        · intro i q1 q2
          rw [List.getElem_map]
          have := hget i (by omega)
          rw [getElem!_pos zs i (by omega)] at this
          simp only [Array.getElem_toList, this]
          rw [getElem!_pos L i q1]
      refine ⟨he, d'.toList.map fun x => L[x.1]!, ?_, ?_, ⟨some ⟨g, 0, none⟩, cap, d'.toList.map fun x => vs[x.1]!, by simp [hd], by simp, ?_, ?_⟩, hg⟩
      · conv => rhs; rw [hL]
        exact hp3.map _
      · rw [List.pairwise_map, List.pairwise_iff_getElem]
        intro i j hi hj hij
        have h5 := hs i j (Nat.zero_le _) hij (by simpa [hd] using hj)
        rw [ltW' fun i => L[i]![0]!] at h5
        have ei : d'.toList[i] = d'[i]! := by
          have : i < d'.size := by simpa using hi
          simp [this]
        have ej : d'.toList[j] = d'[j]! := by
          have : j < d'.size := by simpa using hj
          simp [this]
        rw [ei, ej]
        omega
      · refine .inr ⟨g, 0, rfl, Nat.lt_of_lt_of_le hgl hg.size, fun j hj i u hu => ?_⟩
        have hj' : j < d'.size := by simpa using hj
        have := (h4 j hj').1
        rcases i with _ | i
        · have e1 : (d'.toList.map fun x => vs[x.1]!)[j]! = vs[(d'[j]!).1]! := by
            rw [getElem!_pos _ j hj, List.getElem_map, Array.getElem_toList, getElem!_pos d' j hj']
          rw [e1] at hu
          have e2 : vs[(d'[j]!).1]! = u := by
            unfold encV at hu
            rw [List.getElem?_cons_zero] at hu
            injection hu
          rw [← e2, Nat.mul_one, Nat.add_zero, Nat.zero_add]
          rw [Nat.zero_add] at this
          exact this
        · simp [encV] at hu
      · intro i hi
        have hi' : i < d'.size := by simpa using hi
        have e1 : (d'.toList.map fun x => vs[x.1]!)[i]! = vs[(d'[i]!).1]! := by
          rw [getElem!_pos _ i hi, List.getElem_map, Array.getElem_toList, getElem!_pos d' i hi']
        have e2 : (d'.toList.map fun x => L[x.1]!)[i]! = L[(d'[i]!).1]! := by
          rw [getElem!_pos _ i (by simpa using hi'), List.getElem_map, Array.getElem_toList, getElem!_pos d' i hi']
        obtain ⟨g', cap', q1, q2, q3, q4, q5⟩ := h3 (d'[i]!).1 (d'[i]!).2
        rw [e1, e2]
        exact ⟨some ⟨g', 0, none⟩, cap', q1, RdI.grown q5 hg q3 q4⟩
end Go.Proofs
/- chains. -/
set_option linter.unusedVariables false
set_option linter.unusedSimpArgs false
namespace Go.Proofs
open Go.RowKit Go.Proofs.Mp

/-- the edges that follow one that has been met -/
def bhV (S : List (Nat × Nat)) (left : Int → Bool) : Int → Option Value := fun x => if (S.any fun p => decide ((p.2 : Int) = x) && !left (p.1 : Int)) = true then some (.bool true) else none
theorem mapV_entry {S : List (Nat × Nat)} (hS : Inj S) {x : Int} {v : Value} (h : mapV S (fun _ => false) x = some v) : ∃ a b : Nat, (a, b) ∈ S ∧ x = (a : Int) ∧ v = .int .i64 (b : Int) := by
  unfold mapV mpx at h
  split at h
  · rename_i h0
    rw [if_neg Bool.false_ne_true] at h
    rcases hk : nx S x.toNat with _ | k
    · rw [hk] at h; cases h
    · rw [hk] at h
      exact ⟨x.toNat, k, (nx_mem hS).1 hk, by omega, by simpa using h.symm⟩
  · cases h
theorem mapV_some {S : List (Nat × Nat)} (hS : Inj S) {a b : Nat} (h : (a, b) ∈ S) : (mapV S (fun _ => false) (a : Int)).isSome = true := by
  unfold mapV mpx
  rw [if_pos (by omega), if_neg Bool.false_ne_true, Int.toNat_natCast, (nx_mem hS).2 h]
  rfl
theorem bh_start {S : List (Nat × Nat)} (hS : Inj S) (x : Int) : (fun _ => none : Int → Option Value) x = bhV S (fun x => (mapV S (fun _ => false) x).isSome) x := by
  unfold bhV
  rw [if_neg]
  intro h
  rw [List.any_eq_true] at h
  obtain ⟨⟨a, b⟩, hp, hq⟩ := h
  rw [Bool.and_eq_true] at hq
  dsimp only at hq
  rw [mapV_some hS hp] at hq
  exact absurd hq.2 (by decide)
theorem bh_step {S : List (Nat × Nat)} (hS : Inj S) {left : Int → Bool} {a b : Nat} (h : (a, b) ∈ S) (x : Int) : setV (bhV S left) (b : Int) (.bool true) x = bhV S (fun z => left z && !decide (z = (a : Int))) x := by
  unfold setV bhV
  by_cases hx : x = (b : Int)
  · rw [if_pos hx, if_pos]
    rw [List.any_eq_true]
    exact ⟨(a, b), h, by simp [hx]⟩
  · rw [if_neg hx]
    have e : (S.any fun p => decide ((p.2 : Int) = x) && !left (p.1 : Int)) = (S.any fun p => decide ((p.2 : Int) = x) && !(left (p.1 : Int) && !decide ((p.1 : Int) = (a : Int)))) := by
      rw [Bool.eq_iff_iff, List.any_eq_true, List.any_eq_true]
      constructor
      · rintro ⟨p, hp, hq⟩
        refine ⟨p, hp, ?_⟩
        rw [Bool.and_eq_true] at hq ⊢
        refine ⟨hq.1, ?_⟩
        have := hq.2
        rw [Bool.not_eq_true'] at this
        rw [this]; rfl
      · rintro ⟨p, hp, hq⟩
        refine ⟨p, hp, ?_⟩
        rw [Bool.and_eq_true] at hq ⊢
        refine ⟨hq.1, ?_⟩
        by_cases hpa : p.1 = a
        · exfalso
          have h1 : nx S p.1 = some p.2 := (nx_mem hS).2 hp
          have h2 : nx S a = some b := (nx_mem hS).2 h
          rw [hpa, h2] at h1
          injection h1 with h1
          have := hq.1
          rw [decide_eq_true_eq] at this
          omega
        · have hn : ¬ ((p.1 : Int) = (a : Int)) := by omega
          have := hq.2
          rw [decide_eq_false hn] at this
          simpa using this
    rw [e]
theorem bh_end {S : List (Nat × Nat)} {left : Int → Bool} (h : ∀ x, left x = false) (n : Nat) : (bhV S left (n : Int)).getD (.bool false) = .bool (ran S n) := by
  have e : (S.any fun p => decide ((p.2 : Int) = (n : Int)) && !left (p.1 : Int)) = ran S n := by
    unfold ran
    congr 1
    funext p
    rw [h, Bool.not_false, Bool.and_true, Bool.eq_iff_iff, decide_eq_true_eq, beq_iff_eq]
    omega
  unfold bhV
  rw [e]
  cases ran S n <;> rfl
theorem MapV.same {P : Program} {k : TypeId} {w w' : World} {B N : Nat} {f : Int → Option Value} (h : MapV P k w B N f) (e : w'.heap[B]? = w.heap[B]?) : MapV P k w' B N f := by
  obtain ⟨D, ⟨es, clock, hh, r⟩, q⟩ := h
  exact ⟨D, ⟨es, clock, e.trans hh, r⟩, q⟩
theorem steps_small {t : Ht} {W H : Nat} (g : Grd t W H) (ab : Nat → Bool) : Small (stepsL ab W H) := by
  obtain ⟨a1, a2, a3, a4, a5, a6, _⟩ := g.all
  constructor
  · have h1 := stepsTo_len ab W (H - 1)
    have h2 : 2 * (W - 1) * (H - 1) ≤ 2 * 63 * 63 := Nat.mul_le_mul (Nat.mul_le_mul (Nat.le_refl _) (by omega)) (by omega)
    unfold stepsL
    omega
  · intro p hp
    obtain ⟨h1, h2⟩ := steps_crs hp
    have h1 := crs_lt h1
    have h2 := crs_lt h2
    have : 3 * W * H = 3 * (W * H) := Nat.mul_assoc 3 W H
    omega
theorem steps_lim {ab : Nat → Bool} {W H : Nat} (hS : Inj (stepsL ab W H)) : Lim (stepsL ab W H) (3 * W * H) := by
  intro e he
  unfold dom at he
  obtain ⟨k, hk⟩ := Option.isSome_iff_exists.1 he
  exact crs_lt (steps_crs ((nx_mem hS).1 hk)).1
/-- the state of the two loops of chains -/
def Lst (S : List (Nat × Nat)) (base B pl NB : Nat) (w5 : World) (D : Nat → Bool) (L : List (List Int)) (W : World) : Prop :=
  Keep2 base B pl w5 W ∧ MapV Try.prog 3 W B NB (mapV S D) ∧ ∃ vl, W.cell? ⟨pl, 0, none⟩ = some vl ∧ W.frozen? ⟨pl, 0, none⟩ = false ∧ ChR W base vl L
theorem Lst.follow {S : List (Nat × Nat)} {base B pl pn NB : Nat} {w5 W : World} {D : Nat → Bool} {L : List (List Int)} {n : Nat} (h : Lst S base B pl NB w5 D L W) (hS : Inj S) (hsm : Small S) (ho : Mp.Open S D n) (hn : n ≤ 20000) (hL : L.length ≤ 100000)
    (hc : w5.cell? ⟨pn, 0, none⟩ = some (.map (some B))) (hpn : pn < base) (hpl : pl < base) (hB : B < base) (hne1 : pn ≠ pl) (hne2 : pn ≠ B) (hne3 : pl ≠ B) (hb : base ≤ w5.heap.size) (hN : NB ≤ 10000) :
    Calls Try.prog 70 #[.int .i64 n, .pointer (some ⟨pn, 0, none⟩), .pointer (some ⟨pl, 0, none⟩)] W (fun e w' => e = .returned (.tuple #[]) ∧ Lst S base B pl NB w5 (adv S D n) (L ++ [ci (chain S n)]) w') := by
  obtain ⟨hk, hm, vl, h1, h2, h3⟩ := h
  refine (con_follow S D n pn pl B base NB vl L W hS hsm ho hn ((hk.cell hpn hne2 hne1).trans hc) hpn hpl hB hne1 hne2 hne3 (Nat.le_trans hb hk.size) hN h1 h2 hm h3 hL).mono ?_
  rintro e w' ⟨he, hk', hm', vl', g1, g2, g3⟩
  exact ⟨he, hk.trans hk', hm', vl', g1, g2, g3⟩
theorem L1_len (S : List (Nat × Nat)) (n : Nat) : (L1 S n).length ≤ n := by
  unfold L1
  rw [List.length_map]
  exact Nat.le_trans (List.length_filter_le _ _) (by simp)
theorem L2_len (S : List (Nat × Nat)) (n : Nat) : (L2 S n).length ≤ n := by
  unfold L2
  rw [List.length_map]
  exact Nat.le_trans (List.length_filter_le _ _) (by simp)
theorem first_cases {S : List (Nat × Nat)} (hS : Inj S) (n : Nat) : ((mpx S (D1 S n) n).isSome = true ∧ ran S n = false ∧ Mp.start S n = true) ∨ (((mpx S (D1 S n) n).isSome = false ∨ ran S n = true) ∧ Mp.start S n = false) := by
  have := first_test hS n
  rw [← this]
  cases (mpx S (D1 S n) n).isSome <;> cases ran S n <;> simp
/-- what is fixed once the map of the successors and that of the edges behind are there -/
structure Fix7 (S : List (Nat × Nat)) (base B pl pn B2 N2 : Nat) (w5 : World) : Prop where
  hpn : w5.cell? ⟨pn, 0, none⟩ = some (.map (some B))
  lpn : pn < base
  lpl : pl < base
  lB : B < base
  lB2 : B2 < base
  ne1 : pn ≠ pl
  ne2 : pn ≠ B
  ne3 : pl ≠ B
  ne4 : B2 ≠ B
  ne5 : B2 ≠ pl
  hb : base ≤ w5.heap.size
  bh : ∃ f, MapV Try.prog 3 w5 B2 N2 f ∧ ∀ n : Nat, (f (n : Int)).getD (.bool false) = .bool (ran S n)
theorem Fix7.look {S : List (Nat × Nat)} {base B pl pn B2 N2 NB : Nat} {w5 W : World} {D : Nat → Bool} {L : List (List Int)} (h : Fix7 S base B pl pn B2 N2 w5) (hl : Lst S base B pl NB w5 D L W) {n : Nat} (hn : n ≤ 20000) :
    W.cell? ⟨pn, 0, none⟩ = some (.map (some B)) ∧ (Instr.lookup 91 (.map (some B2)) (.int .i64 (n : Int)) false).run Try.prog W = .ok (.bool (ran S n)) W := by
  obtain ⟨f, h1, h2⟩ := h.bh
  refine ⟨(hl.1.cell h.lpn h.ne2 h.ne1).trans h.hpn, ?_⟩
  have h3 := MapV.same h1 (hl.1.block B2 h.lB2 h.ne4 h.ne5)
  have := h3.run (t := 91) (e := 4) (z := .bool false) Try.underlying91 Try.underlying3 (by kernel_rfl) (n : Int) (wf_nat hn)
  rw [h2 n] at this
  exact this

theorem set_eq (w : World) {g : Nat} (v : Value) (h : w.cell? ⟨g, 0, none⟩ = some v) : w.setCell ⟨g, 0, none⟩ v = w := by
  unfold World.cell? at h
  have e : (w.heap.modify g fun
      | .cells c elem frozen => .cells (if (none : Option (Option Nat)).isSome then c else c.setIfInBounds 0 v) elem frozen
      | o => o) = w.heap := by
    apply Array.ext_getElem?
    intro i
    rw [Array.getElem?_modify]
    split
    · rename_i he
      subst he
      rcases hh : w.heap[g]? with _ | ob
      · rfl
      · rw [hh] at h
        cases ob with
        | cells c e f =>
          have h0 : c[0]? = some v := h
          have : c.setIfInBounds 0 v = c := by
            apply Array.ext_getElem?
            intro j
            rw [Array.getElem?_setIfInBounds]
            split
            · rename_i hj
              subst hj
              have := (Array.getElem?_eq_some_iff.1 h0).1
              rw [if_pos this, h0]
            · rfl
          show some (Obj.cells (c.setIfInBounds 0 v) e f) = _
          rw [this]
        | _ => rfl
    · rfl
  have e2 : w.setCell ⟨g, 0, none⟩ v = { w with heap := w.heap.modify g fun
      | .cells c elem frozen => .cells (if (none : Option (Option Nat)).isSome then c else c.setIfInBounds 0 v) elem frozen
      | o => o } := rfl
  rw [e2, e]
theorem ci_at (c : List Nat) : (ci c)[0]! = ((c[0]! : Nat) : Int) := by
  cases c <;> rfl
theorem sorted_chains {S : List (Nat × Nat)} (hS : Inj S) {N : Nat} {L' : List (List Int)} (hp : L'.Perm ((L1 S N ++ L2 S N).map ci)) (hs : L'.Pairwise fun a b => a[0]! ≤ b[0]!) : L' = (chainsL S N).map ci := by
  have hci : ∀ c : List Nat, (ci c).map Int.toNat = c := by
    intro c
    unfold ci
    rw [List.map_map]
    conv => rhs; rw [← List.map_id c]
    apply List.map_congr_left
    intro a _
    simp
  have h1 : (L'.map fun c => c.map Int.toNat).Perm (L1 S N ++ L2 S N) := by
    have := hp.map (fun c => c.map Int.toNat)
    rw [List.map_map, show ((fun c : List Int => c.map Int.toNat) ∘ ci) = id from funext fun c => hci c, List.map_id] at this
    exact this
  have h2 : L' = (L'.map fun c => c.map Int.toNat).map ci := by
    rw [List.map_map]
    conv => lhs; rw [← List.map_id L']
    apply List.map_congr_left
    intro a ha
    obtain ⟨c, _, rfl⟩ := List.mem_map.1 (hp.mem_iff.1 ha)
    simp only [Function.comp, hci, id]
  rw [h2]
  congr 1
  refine chains_sorted hS h1 ?_
  rw [h2, List.pairwise_map] at hs
  refine hs.imp fun {a b} h => ?_
  rw [ci_at, ci_at] at h
  omega

theorem chains_ne (S : List (Nat × Nat)) (N M i : Nat) (hi : i < ((L1 S N ++ L2 S M).map ci).length) : ((L1 S N ++ L2 S M).map ci)[i]! ≠ [] := by
  have hm : ((L1 S N ++ L2 S M).map ci)[i]! ∈ (L1 S N ++ L2 S M).map ci := by
    rw [getElem!_pos _ i hi]
    exact List.getElem_mem hi
  obtain ⟨c, hc, he⟩ := List.mem_map.1 hm
  rw [← he]
  have hne : c ≠ [] := by
    rcases List.mem_append.1 hc with h | h
    · obtain ⟨s, _, rfl⟩ := List.mem_map.1 h; exact chain_ne
    · obtain ⟨s, _, rfl⟩ := List.mem_map.1 h; exact chain_ne
  unfold ci
  simpa using hne
theorem ChR.own {w : World} {base : Nat} {vl : Value} {L : List (List Int)} (h : ChR w base vl L) : ∀ j, vl.ownBlock = some j → base ≤ j := by
  obtain ⟨vs, _, h2, _⟩ := h
  exact fun j hj => (World.ownsRow.lt h2 j hj).1

set_option maxRecDepth 100000 in
set_option maxHeartbeats 16000000 in
theorem con_chains (t : Ht) (W H : Nat) (level : Int) (w : World) (g : Grd t W H) (hR : RdI w t.a t.v) :
    Calls Try.prog 52 #[aggH t, .int .i64 level] w (fun e w' => ∃ v, e = .returned v ∧ ChD w' v ((chainsL (stepsL (abv t level) W H) (3 * W * H)).map ci) ∧ Below w.heap.size w w') := by
  have hmf : ∀ (fn : Fn) (first cap : Array Value) (w : World), (Instr.makeFunc fn first cap).run Try.prog w = .ok (.func fn first cap) w := fun _ _ _ _ => rfl
  have hmm := @run_makeMap Try.prog
  have hu89 := Try.underlying89
  have hu91 := Try.underlying91
  have hu3 := Try.underlying3
  have hz3 : ∀ W, (zeroValue 3).run Try.prog W = .ok (.int .i64 0) W := fun W => by kernel_rfl
  have hmx : maxLen = 9223372036854775807 := rfl
  obtain ⟨a1, a2, a3, a4, a5, a6, a7, a8, a9, a10, a11⟩ := g.all
  have hS : Inj (stepsL (abv t level) W H) := steps_inj (by omega)
  have hsm := steps_small g (abv t level)
  have hlim := steps_lim hS
  have hN3 : 3 * W * H ≤ 12288 := by have : 3 * W * H = 3 * (W * H) := Nat.mul_assoc 3 W H
                                     omega
  have cS := Lib.hid fun (W' : World) (hb : Below w.heap.size w W') => (by
    have := con_successors t W H level W' g (hR.below hb)
    exact this : Calls Try.prog 69 #[aggH t, .int .i64 level] W' (RetM W' (addM (fun _ => none) (stepsL (abv t level) W H))))
  have HAM := Lib.hid (addM_map hS)
  have hmulc := Int.natCast_mul (3 * W) H
  have hmul3 := Int.natCast_mul 3 W
  have hwt := g.w
  have hht := g.h
  clear hR a5 a9 a10 a11
  generalize stepsL (abv t level) W H = S at *
  have HS := Lib.hid hS
  have HSM := Lib.hid hsm
  have HLM := Lib.hid hlim
  have hrow0 := RowH.new w t
  clear hS hsm hlim g
  obtain ⟨x, y, tw, th, st, A, cc, v⟩ := t
  unfold aggH celH at *
  dsimp only at *
  subst hwt hht
  have hWi : (W : Int) ≤ 64 := by omega
  have hHi : (H : Int) ≤ 64 := by omega
  obtain ⟨NN, hNN⟩ : ∃ NN, 3 * W * H = NN := ⟨_, rfl⟩
  rw [hNN] at hN3 HLM hmulc ⊢
  have hprod : (3 : Int) * (W : Int) * (H : Int) = (NN : Int) := by rw [hmulc, hmul3]; rfl
  have hp3 : (3 : Int) * (W : Int) ≤ 192 := by omega
  have hNNi : (NN : Int) ≤ 12288 := by omega
  clear hmulc hmul3 hNN
  obtain ⟨r0, r1, r2, r3, r4, r5⟩ := (hrow0.below (bw1 _ (.cells #[.slice none 0 0] 73))).cells
  dsimp only at r0 r1 r2 r3 r4 r5 hrow0
  go_enter Try.func52, Try.ntmps52
  go_upto_region 1 with fail
  have hB0 : Below w.heap.size w ((w.alloc (.cells #[.int .i64 x, .int .i64 y, .int .i64 W, .int .i64 H, .int .i64 st, .slice A v.length cc] 26)).alloc (.cells #[.slice none 0 0] 73)) := (bw1 _ _).alloc (by simp) _
  have hs0 : ((w.alloc (.cells #[.int .i64 x, .int .i64 y, .int .i64 W, .int .i64 H, .int .i64 st, .slice A v.length cc] 26)).alloc (.cells #[.slice none 0 0] 73)).heap.size = w.heap.size + 2 := by simp
  have hv0 : ((w.alloc (.cells #[.int .i64 x, .int .i64 y, .int .i64 W, .int .i64 H, .int .i64 st, .slice A v.length cc] 26)).alloc (.cells #[.slice none 0 0] 73)).heap[w.heap.size + 1]? = some (.cells #[.slice none 0 0] 73 (0, 0)) := by
    have := heap_alloc_new (w.alloc (.cells #[.int .i64 x, .int .i64 y, .int .i64 W, .int .i64 H, .int .i64 st, .slice A v.length cc] 26)) (.cells #[.slice none 0 0] 73)
    rwa [show (w.alloc (.cells #[.int .i64 x, .int .i64 y, .int .i64 W, .int .i64 H, .int .i64 st, .slice A v.length cc] 26)).heap.size = w.heap.size + 1 by simp] at this
  have hrow1 := hrow0.below (bw1 _ (.cells #[.slice none 0 0] 73))
  clear hrow0
  generalize ((w.alloc (.cells #[.int .i64 x, .int .i64 y, .int .i64 W, .int .i64 H, .int .i64 st, .slice A v.length cc] 26)).alloc (.cells #[.slice none 0 0] 73)) = wA at *
  go_wp2_with fail
  refine (cS.out _ hB0).mono ?_
  rintro e w1 ⟨B, NB, rfl, hm, hNB, hBge, hb1⟩
  have hm1 : MapV Try.prog 3 w1 B NB (mapV S (fun _ => false)) := hm.congr fun x => HAM.out x
  have hBl := hm1.lt
  have hs1 := hb1.size
  have hrow2 := hrow1.below hb1
  have hv1 := (hb1.block _ (by omega)).trans hv0
  have hB1 := hB0.trans (hb1.mono hB0.size)
  clear hm hrow1 hv0 hb1 r0 r1 r2 r3 r4 r5
  have hb12 : Below w1.heap.size w1 ((w1.alloc (.cells #[.map (some B)] 89)).alloc (.map #[] 0)) := (bw1 _ _).alloc (by simp) _
  have hm3 := hm1.below hb12
  have hrow3 := hrow2.below hb12
  have hv3 := (hb12.block (w.heap.size + 1) (by omega)).trans hv1
  have hB3 := hB1.trans (hb12.mono hB1.size)
  have hmb : MapV Try.prog 3 ((w1.alloc (.cells #[.map (some B)] 89)).alloc (.map #[] 0)) (w1.heap.size + 1) 0 (fun _ => none) := by
    have : MapV Try.prog 3 ((w1.alloc (.cells #[.map (some B)] 89)).alloc (.map #[] 0)) (w1.alloc (.cells #[.map (some B)] 89)).heap.size 0 (fun _ => none) := MapV.made _
    rwa [show (w1.alloc (.cells #[.map (some B)] 89)).heap.size = w1.heap.size + 1 by simp] at this
  have hpn : ((w1.alloc (.cells #[.map (some B)] 89)).alloc (.map #[] 0)).cell? ⟨w1.heap.size, 0, none⟩ = some (.map (some B)) := by
    have h := heap_alloc_new w1 (.cells #[.map (some B)] 89)
    have h2 := ((bw1 (w1.alloc (.cells #[.map (some B)] 89)) (.map #[] 0)).block w1.heap.size (by simp)).trans h
    rw [cell_of_row _ _ _ _ _ _ h2]; rfl
  have hs3 : ((w1.alloc (.cells #[.map (some B)] 89)).alloc (.map #[] 0)).heap.size = w1.heap.size + 2 := by simp
  go_upto_region 3 with fail
  clear hm1 hrow2 hv1 hb12
  generalize ((w1.alloc (.cells #[.map (some B)] 89)).alloc (.map #[] 0)) = w3 at *
  have hmb0 : MapV Try.prog 3 w3 (w1.heap.size + 1) 0 (bhV S (fun x => (mapV S (fun _ => false) x).isSome)) := hmb.congr fun x => bh_start HS.out x
  clear hmb
  have HPN := Lib.hid hpn
  go_wp2_with (at_range; refine MapV.range hm3 rfl _ rfl hu89 hu3 rfl ?_; intro w4 nn cnt hr4 hc4 hg4 hs4)
  go_frame
  have hb34 : Below (w1.heap.size + 1) w3 w4 := (Below.refl _ _).grown hg4 (by omega) (fun q e => by cases e)
  have hmb4 := hmb0.kept hg4 (by simp)
  have HM3 := Lib.hid hm3
  clear hpn
  go_loopw [8] (fun _ wr => ∃ (left : Int → Bool) (cnt' N2 : Nat), RngV Try.prog 3 wr B w3.heap.size nn (mapV S (fun _ => false)) left cnt' ∧ MapV Try.prog 3 wr (w1.heap.size + 1) N2 (bhV S left) ∧ N2 + cnt' ≤ NB ∧ (∀ x, left x = true → (mapV S (fun _ => false) x).isSome = true) ∧ Below (w1.heap.size + 1) w3 wr) (fun _ wr => wr.rangeLeft B w3.heap.size)
  case atStart => exact ⟨_, cnt, 0, hr4, hmb4, by omega, fun x h => h, hb34⟩
  case round =>
    clear hr4 hmb4 hb34 hg4 hs4 hm3 hmb0
    obtain ⟨left, cnt', N2, hr, hmb, hN2, hsub, hbw⟩ := hrel
    have HR := Lib.hid hr
    have HMB := Lib.hid hmb
    have HSUB := Lib.hid hsub
    go_wp2_with (at_next; refine RngV.next hr rfl _ rfl hu3 rfl ?_ ?_ hsub)
    · intro hl
      have HL := Lib.hid hl
      have hszr := hbw.size
      have HFX := Lib.hid (show Fix7 S (w1.heap.size + 2) B (w.heap.size + 1) w1.heap.size (w1.heap.size + 1) N2 wr from
        ⟨(hbw.cell (p := ⟨w1.heap.size, 0, none⟩) (by simp)).trans HPN.out, by omega, by omega, by omega, by omega, by omega, by omega, by omega, by omega, by omega, by omega, ⟨_, HMB.out, fun n => bh_end HL.out n⟩⟩)
      have hv5 := (hbw.block (w.heap.size + 1) (by omega)).trans hv3
      have HL0 := Lib.hid (show Lst S (w1.heap.size + 2) B (w.heap.size + 1) NB wr (D1 S 0) ((L1 S 0).map ci) wr from
        ⟨Keep2.refl _ _ _ _, HM3.out.belowN hbw (by omega), _, by rw [cell_of_row _ _ _ _ _ _ hv5]; rfl, frozen_of_row _ _ _ _ _ hv5, ChR.nil _ _⟩)
      have hB5 := hB3.trans (hbw.mono (by omega))
      have hro5 := (hbw.block w.heap.size (by omega)).trans hrow3
      clear hl hr hmb hN2 hsub hbw HR HMB HSUB hv5
      generalize wr = w5 at *
      have HRO := Lib.hid (fun (W' : World) (hk : Keep2 (w1.heap.size + 2) B (w.heap.size + 1) w5 W') => (hk.block w.heap.size (by omega) (by omega) (by omega)).trans hro5)
      obtain ⟨r0, r1, r2, r3, r4, r5⟩ := (show RowH w5 w.heap.size _ from hro5).cells
      dsimp only at r0 r1 r2 r3 r4 r5
      clear hro5
      go_upto_region 9 with fail
      clear r0 r1 r2 r3 r4 r5
      go_wp2_with fail
      go_loopw [37] (fun i wx => ∃ n : Nat, n ≤ NN ∧ i = .int .i64 n ∧ Hid (Lst S (w1.heap.size + 2) B (w.heap.size + 1) NB w5 (D1 S n) ((L1 S n).map ci) wx)) (fun i _ => NN - (intOf i).toNat)
      case atStart => exact ⟨0, by omega, rfl, HL0⟩
      case round =>
        obtain ⟨n, hn, rfl, hL⟩ := hrel
        have hn2 : n ≤ 20000 := by omega
        obtain ⟨hcp, hlk⟩ := HFX.out.look hL.out hn2
        have hm5 := hL.out.2.1
        have hwf := wf_nat hn2
        by_cases hlt : n < NN
        rotate_left
        · have hnn : NN = n := by omega
          subst hnn
          have hge : ¬ ((NN : Int) < (NN : Int)) := by omega
          have HL2 := Lib.hid (show Lst S (w1.heap.size + 2) B (w.heap.size + 1) NB w5 (D2 S NN 0) ((L1 S NN ++ L2 S 0).map ci) wr from by
            rw [D2_zero, show L2 S 0 = [] from rfl, List.append_nil]; exact hL.out)
          clear hcp hlk hm5 hwf HL0 hL hn hlt
          go_upto_region 16 with fail
          clear hge
          go_wp2_with fail
          generalize wr = wr0 at HL2
          go_loopw [58] (fun i wx => ∃ n : Nat, n ≤ NN ∧ i = .int .i64 n ∧ Hid (Lst S (w1.heap.size + 2) B (w.heap.size + 1) NB w5 (D2 S NN n) ((L1 S NN ++ L2 S n).map ci) wx)) (fun i _ => NN - (intOf i).toNat)
          case atStart => exact ⟨0, by omega, rfl, HL2⟩
          case round =>
            obtain ⟨n, hn, rfl, hL⟩ := hrel
            have hn2 : n ≤ 20000 := by omega
            obtain ⟨hcp, hlk⟩ := HFX.out.look hL.out hn2
            have hm5 := hL.out.2.1
            have hwf := wf_nat hn2
            by_cases hlt : n < NN
            rotate_left
            · have hnn : NN = n := by omega
              subst hnn
              have hge : ¬ ((NN : Int) < (NN : Int)) := by omega
              obtain ⟨hk, hm, vl, hl1, hl2, hl3⟩ := hL.out
              clear hcp hlk hm5 hwf HL2 hm
              go_upto_region 23 with fail
              clear hge
              have hBw : Below w.heap.size w wr := hk.below hB5 (by omega) (by omega) (by omega)
              have hbs := HFX.out.hb
              have hks := hk.size
              have hown := hl3.own
              have cSo := Lib.hid (con_sort wr _ vl _ hl3 (fun i hi => chains_ne S NN NN i hi) (by
                have h1 := L1_len S NN
                have h2 := L2_len S NN
                rw [List.length_map, List.length_append]
                omega))
              obtain ⟨A0, c0, rfl⟩ := hl3.len
              have HEND := Lib.hid (fun (w7 : World) (L' : List (List Int)) (hp : L'.Perm ((L1 S NN ++ L2 S NN).map ci)) (hs : L'.Pairwise fun a b => a[0]! ≤ b[0]!) => sorted_chains HS.out hp hs)
              have HPL := Lib.hid (fun (w7 : World) (hg : wr.grownBy w7 (Value.slice A0 ((L1 S NN ++ L2 S NN).map ci).length c0).ownBlock) => (by
                have hb : w7.heap[w.heap.size + 1]? = wr.heap[w.heap.size + 1]? := hg.block _ (by omega) (fun e => by have := hown _ e.symm; omega)
                have h1 : w7.cell? ⟨w.heap.size + 1, 0, none⟩ = wr.cell? ⟨w.heap.size + 1, 0, none⟩ := by unfold World.cell?; rw [hb]
                have h2 : w7.frozen? ⟨w.heap.size + 1, 0, none⟩ = wr.frozen? ⟨w.heap.size + 1, 0, none⟩ := by unfold World.frozen?; rw [hb]
                exact ⟨h1.trans hl1, h2.trans hl2, set_eq w7 _ (h1.trans hl1), hBw.grown hg (by omega) (fun j e => by have := hown j e; omega)⟩ :
                  w7.cell? ⟨w.heap.size + 1, 0, none⟩ = some (Value.slice A0 ((L1 S NN ++ L2 S NN).map ci).length c0) ∧ w7.frozen? ⟨w.heap.size + 1, 0, none⟩ = false ∧ w7.setCell ⟨w.heap.size + 1, 0, none⟩ (Value.slice A0 ((L1 S NN ++ L2 S NN).map ci).length c0) = w7 ∧ Below w.heap.size w w7))
              clear hk hl2 hl3 hown hL
              generalize ((L1 S NN ++ L2 S NN).map ci) = LL at *
              go_wp2_with fail
              refine cSo.out.mono ?_
              rintro e w7 ⟨rfl, L', hp, hs, hch, hg⟩
              obtain ⟨q1, q2, q3, q4⟩ := HPL.out w7 hg
              have HQ := Lib.hid (HEND.out w7 L' hp hs)
              have HCH := Lib.hid hch
              clear hg hp hs hch hl1
              go_wp2
              refine bodyPost_ret (v := .slice A0 LL.length c0) (by simp [results, Try.results52, go_sem, q1]) rfl ?_
              exact ⟨_, rfl, by rw [← HQ.out]; exact HCH.out, q4⟩
            · have hli : (n : Int) < (NN : Int) := by omega
              have HD := Lib.hid (D2_succ S NN n)
              have HLs := Lib.hid (L2_succ S n)
              obtain ⟨vm, hvm⟩ : ∃ q, (mapV S (D2 S NN n) (n : Int)).getD (.int .i64 0) = q := ⟨_, rfl⟩
              have HMS := Lib.hid (show (mapV S (D2 S NN n) (n : Int)).isSome = cycB S n by rw [mapV_look, ← second_test HS.out HLM.out n]; cases mpx S (D2 S NN n) n <;> rfl)
              have HV := Lib.hid hvm
              clear hvm hlk
              cases e3 : cycB S n
              · rw [e3] at HMS
                rw [e3, if_neg Bool.false_ne_true] at HD HLs
                have HK := Lib.hid hL.out
                rw [← HD.out, ← HLs.out] at HK
                clear HL2 hL
                go_wp2_with (refine MapV.look_ok hm5 rfl _ _ rfl hu89 hu3 (hz3 _) rfl (n : Int) rfl hwf HV.out HMS.out ?_; clear hm5)
                go_roundw
                case rel => exact ⟨n + 1, by omega, by go_num, HK⟩
                case measure => simp [intOf]; omega
              · rw [e3] at HMS
                have cF := Lib.hid (Lst.follow hL.out HS.out HSM.out (second_open HS.out e3) hn2 (by have := L1_len S NN; have := L2_len S n; rw [List.length_map, List.length_append]; omega) HFX.out.hpn HFX.out.lpn HFX.out.lpl HFX.out.lB HFX.out.ne1 HFX.out.ne2 HFX.out.ne3 HFX.out.hb (by omega))
                rw [e3, if_pos rfl] at HD HLs
                clear HL2 hL
                go_wp2_with (refine MapV.look_ok hm5 rfl _ _ rfl hu89 hu3 (hz3 _) rfl (n : Int) rfl hwf HV.out HMS.out ?_; clear hm5)
                refine cF.out.mono ?_
                rintro e wz ⟨rfl, hz⟩
                have HZ := Lib.hid hz
                clear hz hcp cF
                go_wp2
                go_roundw
                case rel => exact ⟨n + 1, by omega, by go_num, by rw [HD.out, HLs.out, ← List.append_assoc, List.map_append]; exact HZ⟩
                case measure => simp [intOf]; omega
        · have hli : (n : Int) < (NN : Int) := by omega
          have HD := Lib.hid (D1_succ S n)
          have HLs := Lib.hid (L1_succ S n)
          obtain ⟨vm, hvm⟩ : ∃ q, (mapV S (D1 S n) (n : Int)).getD (.int .i64 0) = q := ⟨_, rfl⟩
          have HMS := Lib.hid (show (mapV S (D1 S n) (n : Int)).isSome = (mpx S (D1 S n) n).isSome by rw [mapV_look]; cases mpx S (D1 S n) n <;> rfl)
          have HV := Lib.hid hvm
          clear hvm
          rcases first_cases HS.out n with ⟨e1, e2, e3⟩ | ⟨e1, e3⟩
          · rw [e1] at HMS
            rw [e2] at hlk
            have cF := Lib.hid (Lst.follow hL.out HS.out HSM.out (first_open HS.out e3) hn2 (by have := L1_len S n; rw [List.length_map]; omega) HFX.out.hpn HFX.out.lpn HFX.out.lpl HFX.out.lB HFX.out.ne1 HFX.out.ne2 HFX.out.ne3 HFX.out.hb (by omega))
            rw [e3, if_pos rfl] at HD HLs
            clear HL0 hL
            go_wp2_with (refine MapV.look_ok hm5 rfl _ _ rfl hu89 hu3 (hz3 _) rfl (n : Int) rfl hwf HV.out HMS.out ?_; clear hm5)
            refine cF.out.mono ?_
            rintro e wz ⟨rfl, hz⟩
            have HZ := Lib.hid hz
            clear hz hcp hlk cF
            go_wp2
            go_roundw
            case rel => exact ⟨n + 1, by omega, by go_num, by rw [HD.out, HLs.out, List.map_append]; exact HZ⟩
            case measure => simp [intOf]; omega
          · rw [e3, if_neg Bool.false_ne_true] at HD HLs
            have HK := Lib.hid hL.out
            rw [← HD.out, ← HLs.out] at HK
            clear HL0 hL
            rcases e1 with e1 | e1
            · rw [e1] at HMS
              clear hlk
              go_wp2_with (refine MapV.look_ok hm5 rfl _ _ rfl hu89 hu3 (hz3 _) rfl (n : Int) rfl hwf HV.out HMS.out ?_; clear hm5)
              go_roundw
              case rel => exact ⟨n + 1, by omega, by go_num, HK⟩
              case measure => simp [intOf]; omega
            · rw [e1] at hlk
              generalize (mpx S (D1 S n) n).isSome = bq at HMS
              go_wp2_with (refine MapV.look_ok hm5 rfl _ _ rfl hu89 hu3 (hz3 _) rfl (n : Int) rfl hwf HV.out HMS.out ?_; clear hm5; cases bq)
              · go_roundw
                case rel => exact ⟨n + 1, by omega, by go_num, HK⟩
                case measure => simp [intOf]; omega
              · go_roundw
                case rel => exact ⟨n + 1, by omega, by go_num, HK⟩
                case measure => simp [intOf]; omega
    · intro z y w' cnt2 hlx hfx hwfx hr1 hlt hg1 hs1 hen
      obtain ⟨a, b, hab, rfl, rfl⟩ := mapV_entry HS.out hfx
      have hbb := (HSM.out.2 _ hab).2
      have hwfb := wf_nat hbb
      have hmb1 := HMB.out.kept hg1 (by simp)
      have hszr := hbw.size
      have hN2' : N2 < maxLen := by rw [hmx]; omega
      clear hfx hlx hmb hr
      go_wp2_with (refine MapV.store hmb1 rfl _ _ _ rfl hu91 hu3 rfl (b : Int) (.bool true) rfl rfl hwfb (.inr (Nat.le_refl _)) hN2' ?_; intro w6 hmb6 hg6)
      have hr6 := hr1.kept hg6 (by simp; omega) (by simp)
      go_roundw
      case rel => exact ⟨_, cnt2, hr6, N2 + 1, hmb6.congr fun z => bh_step HS.out hab z, by omega, fun z hz => HSUB.out z (by rw [Bool.and_eq_true] at hz; exact hz.1), (hbw.grown hg1 (by omega) (fun q e => by injection e with e; omega)).grown hg6 (by have := hg1.size; omega) (fun q e => by injection e with e; omega)⟩
      case measure => rw [hs3] at HR; rw [hr6.left_eq, HR.out.left_eq]; exact hlt
end Go.Proofs
