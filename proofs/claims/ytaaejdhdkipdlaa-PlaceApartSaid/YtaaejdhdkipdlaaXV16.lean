/- The program's exact search: what it computes. -/
import Derived.Test.YtaaejdhdkipdlaaXJ9
import Derived.Deep.CutBlock
import Derived.Deep.CutRange
import Derived.WalkMore
set_option linter.unusedVariables false
set_option linter.unusedSimpArgs false
namespace Go.Proofs
open Go.RowKit Go.Proofs.Mp Go.Proofs.Uf Go.Maps

section
variable (w0 : World) (base : Nat) (D : Nat → Prop) (lim bN bC bO bT : Nat)
/-- the search's state: the candidates chosen at present, the steps, the last complete choice -/
def StX (W : World) (now : List Int) (x : XS) : Prop :=
  Kp w0 base D W ∧ x.made ≤ lim ∧ One1 W bT (.int .i64 ((lim : Int) - x.made)) 3 ∧ One1 W bO (.bool x.best.isSome) 4 ∧
    ∃ vN vC, One1 W bN vN 23 ∧ One1 W bC vC 23 ∧ Two2 W base vN now vC (x.best.getD [])
def SPost (now : List Int) (o : Option XS) (e : Ending) (W : World) : Prop := match o with
  | none => e = .returned (.bool false) ∧ Kp w0 base D W ∧ ∃ v, One1 W bC v 23
  | some y => e = .returned (.bool true) ∧ StX w0 base D lim bN bC bO bT W now y
end
/-- what the search only reads -/
def Sta (l : List Cand) (F : List Int) (bF bW bL bS bR bN bC bO bT B N : Nat) (AF AL : Option Addr) (cF cL : Nat) (V : Int → Option Value) (W : World) : Prop :=
  W.cell? ⟨bF, 0, none⟩ = some (.slice AF F.length cF) ∧ W.cell? ⟨bW, 0, none⟩ = some (.map (some B)) ∧ W.cell? ⟨bL, 0, none⟩ = some (.slice AL l.length cL) ∧
  W.cell? ⟨bS, 0, none⟩ = some (.func (.func 41) #[] #[.pointer (some ⟨bT, 0, none⟩)]) ∧
  W.cell? ⟨bR, 0, none⟩ = some (.func (.func 42) #[] #[.pointer (some ⟨bF, 0, none⟩), .pointer (some ⟨bN, 0, none⟩), .pointer (some ⟨bC, 0, none⟩), .pointer (some ⟨bO, 0, none⟩), .pointer (some ⟨bW, 0, none⟩), .pointer (some ⟨bL, 0, none⟩), .pointer (some ⟨bS, 0, none⟩), .pointer (some ⟨bR, 0, none⟩)]) ∧
  RdI W AF F ∧ Rd 8 encC W AL l ∧ MapV Try.prog 3 W B N V
/-- the boxes that are written are four, and lie below base -/
def Dis (base : Nat) (D : Nat → Prop) (bN bC bO bT : Nat) : Prop :=
  (D bN ∧ D bC ∧ D bO ∧ D bT) ∧ (bN < base ∧ bC < base ∧ bO < base ∧ bT < base) ∧ (bN ≠ bC ∧ bN ≠ bO ∧ bN ≠ bT ∧ bC ≠ bO ∧ bC ≠ bT ∧ bO ≠ bT)
section
variable {w0 : World} {base : Nat} {D : Nat → Prop} {lim bN bC bO bT : Nat} {W W' : World} {now : List Int} {x : XS}
theorem StX.below (h : StX w0 base D lim bN bC bO bT W now x) (hb : Below W.heap.size W W') : StX w0 base D lim bN bC bO bT W' now x := by
  obtain ⟨h1, h2, h3, h4, vN, vC, h5, h6, h7⟩ := h
  exact ⟨h1.below hb, h2, h3.below hb, h4.below hb, vN, vC, h5.below hb, h6.below hb, h7.below hb⟩
theorem StX.leaf (hd : Dis base D bN bC bO bT) (h : StX w0 base D lim bN bC bO bT W now x) (hb : Below W.heap.size W W') {v' : Value} (hv : OwnI 3 W' W.heap.size v' now) :
    StX w0 base D lim bN bC bO bT ((W'.setCell ⟨bC, 0, none⟩ v').setCell ⟨bO, 0, none⟩ (.bool true)) now ⟨x.made, some now⟩ := by
  have hs0 : base ≤ W.heap.size := h.1.size
  obtain ⟨h1, h2, h3, h4, vN, vC, h5, h6, h7⟩ := h
  obtain ⟨⟨d1, d2, d3, d4⟩, ⟨e1, e2, e3, e4⟩, f1, f2, f3, f4, f5, f6⟩ := hd
  refine ⟨((h1.below hb).setD d2 _).setD d3 _, h2, ((h3.below hb).other (by simpa using Ne.symm f5) _).other (by simpa using Ne.symm f6) _, ?_, vN, v', ?_, ?_, ?_⟩
  · exact one_setCell ((h4.below hb).other (by simpa using Ne.symm f4) _)
  · exact ((h5.below hb).other (by simpa using f1) _).other (by simpa using f2) _
  · exact One1.other (one_setCell (h6.below hb)) (by simpa using f4) _
  · have h8 : Two2 W' base vN now v' now := by
      refine ⟨Own.below h7.1 hb, Own.mono hv hs0, fun j hj hj' => ?_⟩
      have a1 := (World.ownsRow.lt h7.1 j hj).2
      have a2 := (World.ownsRow.lt hv j hj').1
      omega
    exact (h8.set (by simpa using e2) _).set (by simpa using e3) _
theorem StX.step (hd : Dis base D bN bC bO bT) (h : StX w0 base D lim bN bC bO bT W now x) (hl : x.made < lim) :
    StX w0 base D lim bN bC bO bT (W.setCell ⟨bT, 0, none⟩ (.int .i64 ((lim : Int) - x.made - 1))) now ⟨x.made + 1, x.best⟩ := by
  obtain ⟨h1, h2, h3, h4, vN, vC, h5, h6, h7⟩ := h
  obtain ⟨⟨d1, d2, d3, d4⟩, ⟨e1, e2, e3, e4⟩, f1, f2, f3, f4, f5, f6⟩ := hd
  refine ⟨h1.setD d4 _, hl, ?_, h4.other (by simpa using f6) _, vN, vC, h5.other (by simpa using f3) _, h6.other (by simpa using f5) _, h7.set (by simpa using e4) _⟩
  have := one_setCell (u := .int .i64 ((lim : Int) - x.made - 1)) h3
  rw [show (lim : Int) - ((x.made + 1 : Nat) : Int) = (lim : Int) - x.made - 1 by omega]
  exact this
theorem StX.put (hd : Dis base D bN bC bO bT) (h : StX w0 base D lim bN bC bO bT W now x) {W' : World} (hb : Below base W W') {v' vC : Value} {ys : List Int} (hC : One1 W bC vC 23) (h2 : Two2 W' base v' ys vC (x.best.getD [])) :
    StX w0 base D lim bN bC bO bT (W'.setCell ⟨bN, 0, none⟩ v') ys x := by
  obtain ⟨h1, h2', h3, h4, vN, vC', h5, h6, h7⟩ := h
  obtain ⟨⟨d1, d2, d3, d4⟩, ⟨e1, e2, e3, e4⟩, f1, f2, f3, f4, f5, f6⟩ := hd
  have k : ∀ {b v t}, One1 W b v t → b < base → One1 W' b v t := fun h hl => (hb.block _ hl).trans h
  exact ⟨(h1.trans hb).setD d1 _, h2', (k h3 e4).other (by simpa using Ne.symm f3) _, (k h4 e3).other (by simpa using Ne.symm f2) _, v', vC, one_setCell (k h5 e1), (k hC e2).other (by simpa using Ne.symm f1) _, h2.set (by simpa using e1) _⟩
theorem StX.pop (hd : Dis base D bN bC bO bT) {i : Int} (h : StX w0 base D lim bN bC bO bT W (now ++ [i]) x) {A : Addr} {n c : Nat} (hN : One1 W bN (.slice (some A) n c) 23) :
    StX w0 base D lim bN bC bO bT (W.setCell ⟨bN, 0, none⟩ (.slice (some A) now.length c)) now x := by
  have h0 := h
  obtain ⟨h1, h2', h3, h4, vN, vC', h5, h6, h7⟩ := h
  have hv : vN = .slice (some A) n c := by
    have e := h5.symm.trans hN
    injection e with e
    injection e with e
    simpa using e
  subst hv
  exact h0.put hd (Below.refl _ _) h6 ⟨Own.pop h7.1, h7.2.1, h7.2.2⟩
end
theorem fold_none_all {l : List Cand} {lim : Nat} {f : Int} {fs now : List Int} {x : XS} {m : Nat} (h : ((ordL l f).take m).foldl (tryS l lim (srch l lim fs) fs.length now) (some x) = none) : srch l lim (f :: fs) now x = none := by
  unfold srch
  rw [← List.take_append_drop m (ordL l f), List.foldl_append, h, foldTry_none]
  rfl
theorem fold_all {l : List Cand} {lim : Nat} {f : Int} {fs now : List Int} {x y : XS} (h : (ordL l f).foldl (tryS l lim (srch l lim fs) fs.length now) (some x) = some y) : srch l lim (f :: fs) now x = lastS lim (srch l lim fs) fs.length now y := by
  unfold srch
  rw [h]
  rfl
theorem fold_stuck {l : List Cand} {lim : Nat} {g : List Int → XS → Option XS} {n : Nat} {now : List Int} {x : XS} (h : roomB x (now.length + 1 + n) = false) : ∀ O : List Int, O.foldl (tryS l lim g n now) (some x) = some x
  | [] => rfl
  | i :: O => by
    rw [List.foldl_cons]
    have e : tryS l lim g n now (some x) i = some x := by
      unfold tryS
      rw [Option.bind_some, if_neg (fun hc => by rw [h] at hc; cases hc.2)]
    rw [e]
    exact fold_stuck h O
theorem fold_rest {l : List Cand} {lim : Nat} {g : List Int → XS → Option XS} {n : Nat} {now : List Int} {x x2 : XS} {O : List Int} {m : Nat} (h : (O.take m).foldl (tryS l lim g n now) (some x) = some x2) (hr : roomB x2 (now.length + 1 + n) = false) : O.foldl (tryS l lim g n now) (some x) = some x2 := by
  rw [← List.take_append_drop m O, List.foldl_append, h]
  exact fold_stuck hr _
theorem try_hit {l : List Cand} {lim : Nat} {g : List Int → XS → Option XS} {n : Nat} {now : List Int} {x : XS} {i : Int} (h : fitsB l now i = false) : tryS l lim g n now (some x) i = some x := by
  unfold tryS
  rw [Option.bind_some, if_neg (fun hc => by rw [h] at hc; cases hc.1)]
theorem try_full {l : List Cand} {lim : Nat} {g : List Int → XS → Option XS} {n : Nat} {now : List Int} {x : XS} {i : Int} (h : fitsB l now i = true) (hr : roomB x (now.length + 1 + n) = true) (hm : ¬ x.made < lim) : tryS l lim g n now (some x) i = none := by
  unfold tryS
  rw [Option.bind_some, if_pos ⟨h, hr⟩]
  unfold stepX
  rw [if_neg hm]; rfl
theorem try_go {l : List Cand} {lim : Nat} {g : List Int → XS → Option XS} {n : Nat} {now : List Int} {x : XS} {i : Int} (h : fitsB l now i = true) (hr : roomB x (now.length + 1 + n) = true) (hm : x.made < lim) : tryS l lim g n now (some x) i = g (now ++ [i]) ⟨x.made + 1, x.best⟩ := by
  unfold tryS
  rw [Option.bind_some, if_pos ⟨h, hr⟩]
  unfold stepX
  rw [if_pos hm]; rfl
theorem last_no {lim : Nat} {g : List Int → XS → Option XS} {n : Nat} {now : List Int} {x : XS} (hr : roomB x (now.length + n) = false) : lastS lim g n now x = some x := by
  unfold lastS
  rw [if_neg (fun hc => by rw [hr] at hc; cases hc)]
theorem last_full {lim : Nat} {g : List Int → XS → Option XS} {n : Nat} {now : List Int} {x : XS} (hr : roomB x (now.length + n) = true) (hm : ¬ x.made < lim) : lastS lim g n now x = none := by
  unfold lastS
  rw [if_pos hr]
  unfold stepX
  rw [if_neg hm]; rfl
theorem last_go {lim : Nat} {g : List Int → XS → Option XS} {n : Nat} {now : List Int} {x : XS} (hr : roomB x (now.length + n) = true) (hm : x.made < lim) : lastS lim g n now x = g now ⟨x.made + 1, x.best⟩ := by
  unfold lastS
  rw [if_pos hr]
  unfold stepX
  rw [if_pos hm]; rfl
theorem room_none {x : XS} {m : Nat} (h : x.best = none) : roomB x m = true := by unfold roomB; rw [h]
theorem room_some {x : XS} {m : Nat} {b : List Int} (h : x.best = some b) : roomB x m = decide (b.length < m) := by unfold roomB; rw [h]
def CutX (w0 : World) (base : Nat) (D : Nat → Prop) (lim bN bC bO bT : Nat) (l : List Cand) (f : Int) (fs now : List Int) (x : XS) (W : World) : Prop :=
  ∃ x2, (ordL l f).foldl (tryS l lim (srch l lim fs) fs.length now) (some x) = some x2 ∧ StX w0 base D lim bN bC bO bT W now x2
set_option maxRecDepth 100000 in
set_option maxHeartbeats 4000000 in
theorem place_search {l : List Cand} {F : List Int} {w0 : World} {base : Nat} {D : Nat → Prop} {lim bF bW bL bS bR bN bC bO bT B N : Nat} {AF AL : Option Addr} {cF cL : Nat} {V : Int → Option Value}
    (hl : l.length ≤ 1000) (hF : F.length ≤ 1000) (hlim : lim ≤ 100000) (HWF : Hid (wfs F)) (hd : Hid (Dis base D bN bC bO bT)) (HX : Hid (∀ W, Kp w0 base D W → Sta l F bF bW bL bS bR bN bC bO bT B N AF AL cF cL V W))
    (HV : Hid (∀ f, ∃ A c, (V f).getD nilS = .slice A (ordL l f).length c ∧ (ordL l f).length ≤ c ∧ ∀ W, Kp w0 base D W → RdI W A (ordL l f))) :
    ∀ (fs : List Int) (n : Nat) (now : List Int) (x : XS) (wq : World), F.drop n = fs → n ≤ F.length → inAll l now → now.length ≤ n → StX w0 base D lim bN bC bO bT wq now x →
      Calls Try.prog 42 #[.int .i64 (n : Int), .pointer (some ⟨bF, 0, none⟩), .pointer (some ⟨bN, 0, none⟩), .pointer (some ⟨bC, 0, none⟩), .pointer (some ⟨bO, 0, none⟩), .pointer (some ⟨bW, 0, none⟩), .pointer (some ⟨bL, 0, none⟩), .pointer (some ⟨bS, 0, none⟩), .pointer (some ⟨bR, 0, none⟩)] wq (SPost w0 base D lim bN bC bO bT now (srch l lim fs now x)) := by
  intro fs
  induction fs with
  | nil =>
    intro n now x wq hdr hn hin hnl hSt
    obtain rfl : n = F.length := by have := congrArg List.length hdr; simp at this; omega
    have HST := Lib.hid hSt
    obtain ⟨hK, hm, hT, hO, vN, vC, hN, hC, h2⟩ := hSt
    have sF := (HX.out wq hK).1
    have cN := cell_of_one hN
    have hnow : now.length ≤ 1000 := by omega
    have CC := Lib.hid (clone_own h2.1 hnow)
    have HO := Lib.hid hO
    have HC := Lib.hid hC
    clear hT hO hN hC h2 hdr hin hK hn hm
    go_enter Try.func42, Try.ntmps42
    go_wp2_with fail
    go_step3
    go_wp2_with fail
    refine CC.out.mono ?_
    rintro e w1 ⟨v', rfl, hv', hb1⟩
    obtain ⟨A1, c1, rfl⟩ := Own.slice hv'
    have hC1 := HC.out.below hb1
    have hO1 := HO.out.below hb1
    have fC := free_of_one hC1
    have cC := cell_of_one hC1
    have hO2 := hO1.other (p := ⟨bC, 0, none⟩) (by simpa using Ne.symm hd.out.2.2.2.2.2.1) (.slice A1 now.length c1)
    have fO := free_of_one hO2
    have cO := cell_of_one hO2
    have HP := Lib.hid (StX.leaf hd.out HST.out hb1 hv')
    clear hC1 hO1 hO2 hv' hb1
    go_wp2_with fail
    go_ret
    exact ⟨rfl, HP.out⟩
  | cons f fs ih =>
    intro n now x wq hdr hn hin hnl hSt
    have hlt : n < F.length := by
      rcases Nat.lt_or_ge n F.length with h | h
      · exact h
      · rw [List.drop_eq_nil_of_le h] at hdr; cases hdr
    rw [List.drop_eq_getElem_cons hlt] at hdr
    injection hdr with hf hdr
    have hfl : F.length = n + 1 + fs.length := by have := congrArg List.length hdr; simp at this; omega
    have HFL := Lib.hid hfl
    have HDR := Lib.hid hdr
    have HIN := Lib.hid hin
    have HSt := Lib.hid hSt
    have hnow : now.length ≤ 1000 := by omega
    have hwff : (Lit.int .i64 f).wf = true := HWF.out f (by rw [← hf]; exact List.getElem_mem hlt)
    have HF0 : Hid (F[n]! = f) := Lib.hid (by rw [getElem!_pos F n hlt]; exact hf)
    obtain ⟨AO, cO, hVf, hcO, hRO⟩ := HV.out f
    have hol := ordL_len l f
    have HOM := Lib.hid (fun (j : Nat) (hj : j < (ordL l f).length) => (ordL_mem (getMem hj)).1)
    have HVf := Lib.hid hVf
    have HRO := Lib.hid hRO
    have hK := hSt.1
    have HcF := Lib.hid (fun (W : World) (hW : Below wq.heap.size wq W) => (HX.out W (hK.below hW)).1)
    have HcW := Lib.hid (fun (W : World) (hW : Below wq.heap.size wq W) => (HX.out W (hK.below hW)).2.1)
    have HM := Lib.hid (fun (W : World) (hW : Below wq.heap.size wq W) => (HX.out W (hK.below hW)).2.2.2.2.2.2.2)
    obtain ⟨bf, offf, hAF, hbf, hcf⟩ := RdI.cells (HX.out wq hK).2.2.2.2.2.1 (show 0 < F.length by omega)
    clear hfl
    subst hAF
    have HgF : Hid (∀ W, Below wq.heap.size wq W → W.cell? ⟨bf, offf + n, none⟩ = some (.int .i64 f)) := Lib.hid (fun W hW => by rw [hcf W hW n hlt, HF0.out])
    have sF := HcF.out wq (Below.refl _ _)
    have hne : ((n : Int) == (F.length : Int)) = false := by simp; omega
    have hS5 : (fun W : World => Below wq.heap.size wq W) wq.drew := (Below.refl _ _).drew
    clear hdr hin hSt hf hVf hRO hK hcf
    go_enter Try.func42, Try.ntmps42
    go_wp2_with fail
    go_step3
    go_wp2_with fail
    go_step3
    go_wp2_with fail
    refine wp_region_held_drew (S := fun W : World => Below wq.heap.size wq W) (by kernel_rfl) hS5 (fun hHeld => ?_)
    clear hHeld
    generalize wq.drew = wzrb at *
    refine wpAnyH_take (i := 0) (oi := ⟨some 27, _, _, _, _, _⟩) (v := ?vrb1) rfl (by kernel_rfl) (by kernel_rfl) (by kernel_rfl) (fun _ _ _ h => h) (Or.inl ⟨by kernel_rfl, ?hyrb1⟩) (by assumption) ?restrb1
    case hyrb1 => (intro W hSw; have gq := HcW.out W hSw; (try dsimp only at hSw); go_simp; try with_reducible rfl)
    case' restrb1 => try simp only [Act.put, List.setIfInBounds_toArray, List.set_cons_zero, List.set_cons_succ]
    refine wpAnyH_take (i := 1) (oi := ⟨some 28, _, _, _, _, _⟩) (v := ?vrb2) rfl (by kernel_rfl) (by kernel_rfl) (by kernel_rfl) (fun _ _ _ h => h) (Or.inl ⟨by kernel_rfl, ?hyrb2⟩) (by assumption) ?restrb2
    case hyrb2 => (intro W hSw; have gq := HcF.out W hSw; (try dsimp only at hSw); go_simp; try with_reducible rfl)
    case' restrb2 => try simp only [Act.put, List.setIfInBounds_toArray, List.set_cons_zero, List.set_cons_succ]
    refine wpAnyH_take (i := 2) (oi := ⟨some 29, _, _, _, _, _⟩) (v := ?vrb3) rfl (by kernel_rfl) (by kernel_rfl) (by kernel_rfl) (fun _ _ _ h => h) (Or.inl ⟨by kernel_rfl, ?hyrb3⟩) (by assumption) ?restrb3
    case hyrb3 => (intro W hSw; (try dsimp only at hSw); go_simp; try with_reducible rfl)
    case' restrb3 => try simp only [Act.put, List.setIfInBounds_toArray, List.set_cons_zero, List.set_cons_succ]
    refine wpAnyH_take (i := 3) (oi := ⟨some 30, _, _, _, _, _⟩) (v := ?vrb4) rfl (by kernel_rfl) (by kernel_rfl) (by kernel_rfl) (fun _ _ _ h => h) (Or.inl ⟨by kernel_rfl, ?hyrb4⟩) (by assumption) ?restrb4
    case hyrb4 => (intro W hSw; (try dsimp only at hSw); go_simp; try with_reducible rfl)
    case' restrb4 => try simp only [Act.put, List.setIfInBounds_toArray, List.set_cons_zero, List.set_cons_succ]
    refine wpAnyH_take (i := 4) (oi := ⟨some 31, _, _, _, _, _⟩) (v := ?vrb5) rfl (by kernel_rfl) (by kernel_rfl) (by kernel_rfl) (fun _ _ _ h => h) (Or.inl ⟨by kernel_rfl, ?hyrb5⟩) (by assumption) ?restrb5
    case hyrb5 => (intro W hSw; have gq := HgF.out W hSw; (try dsimp only at hSw); go_simp; try with_reducible rfl)
    case' restrb5 => try simp only [Act.put, List.setIfInBounds_toArray, List.set_cons_zero, List.set_cons_succ]
    refine wpAnyH_take (i := 5) (oi := ⟨some 32, _, _, _, _, _⟩) (v := ?vrb6) rfl (by kernel_rfl) (by kernel_rfl) (by kernel_rfl) (fun _ _ _ h => h) (Or.inl ⟨by kernel_rfl, ?hyrb6⟩) (by assumption) ?restrb6
    case hyrb6 => (intro W hSw; refine MapV.exec (v := .slice AO (ordL l f).length cO) (HM.out W hSw) (.tmp 27) (.tmp 31) ?_ Try.underlying57 Try.underlying3 (Try.zero23 _) ?_ f ?_ hwff HVf.out <;> rfl)
    case' restrb6 => try simp only [Act.put, List.setIfInBounds_toArray, List.set_cons_zero, List.set_cons_succ]
    refine wpAnyH_take (i := 6) (oi := ⟨some 33, _, _, _, _, _⟩) (v := ?vrb7) rfl (by kernel_rfl) (by kernel_rfl) (by kernel_rfl) (fun _ _ _ h => h) (Or.inl ⟨by kernel_rfl, ?hyrb7⟩) (by assumption) ?restrb7
    case hyrb7 => (intro W hSw; (try dsimp only at hSw); go_simp; try with_reducible rfl)
    case' restrb7 => try simp only [Act.put, List.setIfInBounds_toArray, List.set_cons_zero, List.set_cons_succ]
    refine wpAnyH_take (i := 7) (oi := ⟨some 34, _, _, _, _, _⟩) (v := ?vrb8) rfl (by kernel_rfl) (by kernel_rfl) (by kernel_rfl) (fun _ _ _ h => h) (Or.inl ⟨by kernel_rfl, ?hyrb8⟩) (by assumption) ?restrb8
    case hyrb8 => (intro W hSw; (try dsimp only at hSw); go_simp; try with_reducible rfl)
    case' restrb8 => try simp only [Act.put, List.setIfInBounds_toArray, List.set_cons_zero, List.set_cons_succ]
    refine wpAnyH_done (by kernel_rfl) ?_ _
    have HS5 : Hid (StX w0 base D lim bN bC bO bT _ now x) := Lib.hid (HSt.out.below hS5)
    try clear hS5
    clear HcW HcF HgF HM sF
    go_upto_block 0 with fail
    go_cut [] from 13 to 82 (fun wc => CutX w0 base D lim bN bC bO bT l f fs now x wc)
    case first =>
      go_wp2_with fail
      go_loopw [34] (fun i wr => ∃ m x2, m ≤ (ordL l f).length ∧ i = .int .i64 (m : Nat) ∧ Hid (((ordL l f).take m).foldl (tryS l lim (srch l lim fs) fs.length now) (some x) = some x2) ∧ Hid (StX w0 base D lim bN bC bO bT wr now x2)) (fun i _ => (ordL l f).length - (intOf i).toNat)
      case atStart => exact ⟨0, x, Nat.zero_le _, rfl, Lib.hid rfl, HS5⟩
      case round =>
        obtain ⟨m, x2, hm, rfl, HFM, HS⟩ := hrel
        obtain ⟨hK, hm2, hT, hO, vN, vC, hN, hC, h2⟩ := HS.out
        by_cases hlm : m < (ordL l f).length
        · obtain ⟨n1, hn1, hn1l⟩ := inB_nat (HOM.out m hlm)
          have HN1 := Lib.hid hn1
          have HSU : Hid (((ordL l f).take (m + 1)).foldl (tryS l lim (srch l lim fs) fs.length now) (some x) = tryS l lim (srch l lim fs) fs.length now (some x2) (n1 : Int)) := Lib.hid (by rw [foldl_take_succ _ _ _ _ hlm, HFM.out, hn1])
          have HIN2 : Hid (inAll l (now ++ [(n1 : Int)])) := Lib.hid (inAll_iff.2 (fun z hz => by
            rcases List.mem_append.1 hz with hz | hz
            · exact inAll_iff.1 HIN.out z hz
            · rw [List.mem_singleton.1 hz]; exact inB_iff.2 ⟨by omega, by omega⟩))
          obtain ⟨bo, offo, rfl, hbo, hco⟩ := RdI.cells (HRO.out wr hK) (show 0 < (ordL l f).length by omega)
          have g2 : wr.cell? ⟨bo, offo + m, none⟩ = some (.int .i64 (n1 : Int)) := by have := hco wr (Below.refl _ _) m hlm; rwa [hn1] at this
          have hd2 : decide (m < (ordL l f).length) = true := decide_eq_true hlm
          obtain ⟨A0, c0, rfl⟩ := Own.slice h2.1
          have cN := cell_of_one hN
          have hown0 := h2.1
          clear hn1 hco hT hO hN hC h2 hK
          go_wp2_with fail
          clear g2 cN
          go_loopw [40] (fun i wr => ∃ nn : Nat, nn ≤ now.length ∧ i = .int .i64 nn ∧ OwnI 3 wr base (.slice A0 now.length c0) now ∧ Hid (StX w0 base D lim bN bC bO bT wr now x2) ∧ Hid (∀ j, j < nn → hitI l (n1 : Int) now[j]! = false)) (fun i _ => now.length - (intOf i).toNat)
          case atStart => exact ⟨0, Nat.zero_le _, rfl, hown0, HS, Lib.hid (fun j hj => by omega)⟩
          case round =>
            clear HS hown0
            obtain ⟨nn, hnn, rfl, hown, HS, hno⟩ := hrel
            by_cases hln : nn < now.length
            · obtain ⟨ba, offa, hA0, hba, HCA⟩ := RdI.cells (Own.rd encI_len hown) (show 0 < now.length by omega)
              subst hA0
              obtain ⟨n2, hn2, hn2l⟩ := inB_nat (HIN.out nn hln)
              have g3 : wr.cell? ⟨ba, offa + nn, none⟩ = some (.int .i64 (n2 : Int)) := by have := HCA wr (Below.refl _ _) nn hln; rwa [hn2] at this
              have HHI : Hid (hitI l (n1 : Int) now[nn]! = hitB l[n1]! l[n2]!) := Lib.hid (by unfold hitI; rw [hn2]; simp)
              have hK := HS.out.1
              have HcL := Lib.hid (fun (W : World) (hW : Below wr.heap.size wr W) => (HX.out W (hK.below hW)).2.2.1)
              obtain ⟨bl, offl, hAL, hbl, HCL⟩ := Rd.rangeCs (HX.out wr hK).2.2.2.2.2.2.1 (show 0 < l.length by omega)
              subst hAL
              have HX1 := Lib.hid (fun (W : World) (hW : Below wr.heap.size wr W) => HCL W hW n1 hn1l)
              have HY1 := Lib.hid (fun (W : World) (hW : Below wr.heap.size wr W) => HCL W hW n2 hn2l)
              obtain ⟨y, hy⟩ : ∃ y, l[n1]! = y := ⟨_, rfl⟩
              obtain ⟨z, hz⟩ : ∃ z, l[n2]! = z := ⟨_, rfl⟩
              rw [hy] at HX1 HHI
              rw [hz] at HY1 HHI
              have hd3 : decide (nn < now.length) = true := decide_eq_true hln
              have HOWN := Lib.hid hown
              clear hn2 HCL hy hz HCA hK hown
              have hS1 : (fun W : World => Below wr.heap.size wr W) wr.drew := (Below.refl _ _).drew
              go_wp2_with fail
              clear g3
              refine wp_region_held_drew (S := fun W : World => Below wr.heap.size wr W) (by kernel_rfl) hS1 (fun hHeld => ?_)
              clear hHeld
              generalize wr.drew = wzra at *
              refine wpAnyH_take (i := 0) (oi := ⟨some 44, _, _, _, _, _⟩) (v := ?vra1) rfl (by kernel_rfl) (by kernel_rfl) (by kernel_rfl) (fun _ _ _ h => h) (Or.inl ⟨by kernel_rfl, ?hyra1⟩) (by assumption) ?restra1
              case hyra1 => (intro W hSw; have gq := HcL.out W hSw; (try dsimp only at hSw); go_simp; try with_reducible rfl)
              case' restra1 => try simp only [Act.put, List.setIfInBounds_toArray, List.set_cons_zero, List.set_cons_succ]
              refine wpAnyH_take (i := 1) (oi := ⟨some 45, _, _, _, _, _⟩) (v := ?vra2) rfl (by kernel_rfl) (by kernel_rfl) (by kernel_rfl) (fun _ _ _ h => h) (Or.inl ⟨by kernel_rfl, ?hyra2⟩) (by assumption) ?restra2
              case hyra2 => (intro W hSw; (try dsimp only at hSw); go_simp; try with_reducible rfl)
              case' restra2 => try simp only [Act.put, List.setIfInBounds_toArray, List.set_cons_zero, List.set_cons_succ]
              refine wpAnyH_take (i := 2) (oi := ⟨some 46, _, _, _, _, _⟩) (v := ?vra3) rfl (by kernel_rfl) (by kernel_rfl) (by kernel_rfl) (fun _ _ _ h => h) (Or.inl ⟨by kernel_rfl, ?hyra3⟩) (by assumption) ?restra3
              case hyra3 => (intro W hSw; (try dsimp only at hSw); go_simp; try with_reducible rfl)
              case' restra3 => try simp only [Act.put, List.setIfInBounds_toArray, List.set_cons_zero, List.set_cons_succ]
              refine wpAnyH_take (i := 3) (oi := ⟨some 47, _, _, _, _, _⟩) (v := ?vra4) rfl (by kernel_rfl) (by kernel_rfl) (by kernel_rfl) (fun _ _ _ h => h) (Or.inl ⟨by kernel_rfl, ?hyra4⟩) (by assumption) ?restra4
              case hyra4 => (intro W hSw; refine Try.exec45 y (.tmp 46) ?_ bl (offl + n1 * 8) ?_ (HX1.out W hSw) <;> rfl)
              case' restra4 => try simp only [Act.put, List.setIfInBounds_toArray, List.set_cons_zero, List.set_cons_succ]
              refine wpAnyH_take (i := 4) (oi := ⟨some 48, _, _, _, _, _⟩) (v := ?vra5) rfl (by kernel_rfl) (by kernel_rfl) (by kernel_rfl) (fun _ _ _ h => h) (Or.inl ⟨by kernel_rfl, ?hyra5⟩) (by assumption) ?restra5
              case hyra5 => (intro W hSw; have gq := HcL.out W hSw; (try dsimp only at hSw); go_simp; try with_reducible rfl)
              case' restra5 => try simp only [Act.put, List.setIfInBounds_toArray, List.set_cons_zero, List.set_cons_succ]
              refine wpAnyH_take (i := 5) (oi := ⟨some 49, _, _, _, _, _⟩) (v := ?vra6) rfl (by kernel_rfl) (by kernel_rfl) (by kernel_rfl) (fun _ _ _ h => h) (Or.inl ⟨by kernel_rfl, ?hyra6⟩) (by assumption) ?restra6
              case hyra6 => (intro W hSw; (try dsimp only at hSw); go_simp; try with_reducible rfl)
              case' restra6 => try simp only [Act.put, List.setIfInBounds_toArray, List.set_cons_zero, List.set_cons_succ]
              refine wpAnyH_take (i := 6) (oi := ⟨some 50, _, _, _, _, _⟩) (v := ?vra7) rfl (by kernel_rfl) (by kernel_rfl) (by kernel_rfl) (fun _ _ _ h => h) (Or.inl ⟨by kernel_rfl, ?hyra7⟩) (by assumption) ?restra7
              case hyra7 => (intro W hSw; (try dsimp only at hSw); go_simp; try with_reducible rfl)
              case' restra7 => try simp only [Act.put, List.setIfInBounds_toArray, List.set_cons_zero, List.set_cons_succ]
              refine wpAnyH_take (i := 7) (oi := ⟨some 51, _, _, _, _, _⟩) (v := ?vra8) rfl (by kernel_rfl) (by kernel_rfl) (by kernel_rfl) (fun _ _ _ h => h) (Or.inl ⟨by kernel_rfl, ?hyra8⟩) (by assumption) ?restra8
              case hyra8 => (intro W hSw; refine Try.exec45 z (.tmp 50) ?_ bl (offl + n2 * 8) ?_ (HY1.out W hSw) <;> rfl)
              case' restra8 => try simp only [Act.put, List.setIfInBounds_toArray, List.set_cons_zero, List.set_cons_succ]
              refine wpAnyH_ready (rs := [8]) (by kernel_rfl) (by simp) ?_
              refine AllReadyH.cons (o := ⟨some 52, _, _, _, _, _⟩) rfl (fun K hK => ?_) AllReadyH.nil
              go_simp
              go_at_call 28
              refine (ov_hit y z wzra).mono ?_
              rintro e Wra1 ⟨rfl, hbWra1⟩
              have hSWra1 := hS1.trans (hbWra1.mono hS1.size)
              try clear hS1
              clear hbWra1
              go_wp2_with fail
              refine hK.out _ _ hSWra1 (fun hHeld => ?_)
              clear hK hHeld K
              try simp only [Act.put, List.setIfInBounds_toArray, List.set_cons_zero, List.set_cons_succ]
              refine wpAnyH_done (by kernel_rfl) ?_ _
              have hbs1 := hSWra1
              clear hSWra1 HX1 HY1 HcL
              have hownA := HOWN.out.below hbs1
              clear HOWN
              have HS1 : Hid (StX w0 base D lim bN bC bO bT _ now x2) := Lib.hid (HS.out.below hbs1)
              clear hbs1
              obtain ⟨q, hq⟩ : ∃ q, hitB y z = q := ⟨_, rfl⟩
              rw [hq]
              have HQ := Lib.hid hq
              clear hq
              cases q
              · go_wp2
                go_roundw
                case rel => exact ⟨nn + 1, by omega, by go_num, hownA, HS1, Lib.hid (fun j hj => by
                  rcases Nat.lt_succ_iff_lt_or_eq.1 hj with h2 | rfl
                  · exact hno.out j h2
                  · rw [HHI.out]; exact HQ.out)⟩
                case measure => simp [intOf]; omega
              · have HF : Hid (((ordL l f).take (m + 1)).foldl (tryS l lim (srch l lim fs) fs.length now) (some x) = some x2) := Lib.hid (by rw [HSU.out]; exact try_hit (fits_no hln (by rw [HHI.out]; exact HQ.out)))
                go_wp2
                go_roundw
                case rel => exact ⟨m + 1, x2, by omega, by go_num, HF, HS1⟩
                case measure => simp [intOf]; omega
            · obtain rfl : nn = now.length := by omega
              have hd3 : decide (now.length < now.length) = false := decide_eq_false (by omega)
              have HFT : Hid (fitsB l now (n1 : Int) = true) := Lib.hid (fits_yes hno.out)
              clear hno hown
              obtain ⟨hK0, hm20, hT0, hO0, vN, vC, hN, hC, h2⟩ := HS.out
              rcases hbst : x2.best with _ | b
              · rw [hbst] at hO0
                have cO := cell_of_one hO0
                have HRM : Hid (roomB x2 (now.length + 1 + fs.length) = true) := Lib.hid (room_none hbst)
                clear hK0 hT0 hO0 hN hC h2 hbst
                by_cases hml : x2.made < lim
                · obtain ⟨hK, hm2, hT, hO, vN, vC, hN, hC, h2⟩ := HS.out
                  have sS := (HX.out _ hK).2.2.2.1
                  have hz : decide ((1 : Int) ≤ (lim : Int) - x2.made) = true := decide_eq_true (by omega)
                  have CS := Lib.hid (step41 bT _ wr hT ⟨by omega, by omega⟩ hz)
                  have HE : Hid (((ordL l f).take (m + 1)).foldl (tryS l lim (srch l lim fs) fs.length now) (some x) = srch l lim fs (now ++ [(n1 : Int)]) ⟨x2.made + 1, x2.best⟩) := Lib.hid (by rw [HSU.out, try_go HFT.out HRM.out hml])
                  clear hT hO hN hC h2 hz hK
                  go_wp2_with fail
                  refine CS.out.mono ?_
                  rintro e w2 ⟨rfl, hw2⟩
                  have HS2 : Hid (StX w0 base D lim bN bC bO bT w2 now ⟨x2.made + 1, x2.best⟩) := Lib.hid (by rw [hw2]; exact StX.step hd.out HS.out hml)
                  clear hw2 sS
                  obtain ⟨hK, hm3, hT, hO, vN, vC, hN, hC, h2⟩ := HS2.out
                  have cN := cell_of_one hN
                  have hbase := hK.size
                  have HN2 := Lib.hid hN
                  have HC2 := Lib.hid hC
                  clear hT hO hN hC hK
                  go_wp2_with (at_builtin; refine Two2.app h2 (n1 : Int) rfl _ _ rfl rfl rfl hnow hbase ?_; clear h2 cN; intro v4 w5 h24 hb4; obtain ⟨A4, c4, rfl⟩ := Own.slice h24.1; rw [show (now ++ [(n1 : Int)]).length = now.length + 1 by simp] at h24; have hN5 : One1 w5 bN vN 23 := (hb4.block _ hd.out.2.1.1).trans HN2.out; have cN5 := cell_of_one hN5; have fN5 := free_of_one hN5; have HS5 : Hid (StX w0 base D lim bN bC bO bT (w5.setCell ⟨bN, 0, none⟩ (.slice A4 (now.length + 1) c4)) (now ++ [(n1 : Int)]) ⟨x2.made + 1, x2.best⟩) := Lib.hid (StX.put hd.out HS2.out hb4 HC2.out h24); have sR5 := (HX.out _ HS5.out.1).2.2.2.2.1; clear h24 hb4 hN5)
                  refine (ih (n + 1) (now ++ [(n1 : Int)]) ⟨x2.made + 1, x2.best⟩ _ HDR.out (by omega) HIN2.out (by simp; omega) HS5.out).mono ?_
                  rintro e w6 hpost
                  clear cN5 fN5 sR5
                  rcases ho : srch l lim fs (now ++ [(n1 : Int)]) ⟨x2.made + 1, x2.best⟩ with _ | y
                  · rw [ho] at hpost
                    obtain ⟨rfl, hK6, v6, hC6⟩ := hpost
                    have HR : Hid (srch l lim (f :: fs) now x = none) := Lib.hid (fold_none_all (m := m + 1) (by rw [HE.out, ho]))
                    clear ho
                    have HP : Hid (Kp w0 base D w6 ∧ ∃ v, One1 w6 bC v 23) := Lib.hid ⟨hK6, v6, hC6⟩
                    clear hK6 hC6
                    go_wp2
                    go_ret
                    rw [HR.out]
                    exact ⟨rfl, HP.out⟩
                  · rw [ho] at hpost
                    obtain ⟨rfl, hS6⟩ := hpost
                    have HE2 : Hid (((ordL l f).take (m + 1)).foldl (tryS l lim (srch l lim fs) fs.length now) (some x) = some y) := Lib.hid (by rw [HE.out, ho])
                    have HS6 := Lib.hid hS6
                    obtain ⟨hK, hm3, hT, hO, vN6, vC6, hN, hC, h2⟩ := hS6
                    obtain ⟨A6, c6, rfl⟩ := Own.slice h2.1
                    obtain ⟨g6, rfl, hl6, hc6⟩ := own_addr h2.1
                    rw [hl6] at hN
                    have cN := cell_of_one hN
                    have fN := free_of_one hN
                    have HN6 := Lib.hid hN
                    clear ho hT hO hN hC h2 hK hl6
                    go_wp2
                    go_roundw
                    case rel => exact ⟨m + 1, y, by omega, by go_num, HE2, Lib.hid (StX.pop hd.out HS6.out HN6.out)⟩
                    case measure => simp [intOf]; omega
                · obtain ⟨hK, hm2, hT, hO, vN, vC, hN, hC, h2⟩ := HS.out
                  have sS := (HX.out _ hK).2.2.2.1
                  have hz : decide ((1 : Int) ≤ (lim : Int) - x2.made) = false := decide_eq_false (by omega)
                  have CS := Lib.hid (step41 bT _ wr hT ⟨by omega, by omega⟩ hz)
                  have HR : Hid (srch l lim (f :: fs) now x = none) := Lib.hid (fold_none_all (m := m + 1) (by rw [HSU.out, try_full HFT.out HRM.out hml]))
                  have HP : Hid (∀ v, Kp w0 base D (wr.setCell ⟨bT, 0, none⟩ v) ∧ ∃ u, One1 (wr.setCell ⟨bT, 0, none⟩ v) bC u 23) := Lib.hid (fun v => ⟨hK.setD hd.out.1.2.2.2 _, _, hC.other (by simpa using hd.out.2.2.2.2.2.2.1) _⟩)
                  clear hT hO hN hC h2 hz hK
                  go_wp2_with fail
                  refine CS.out.mono ?_
                  rintro e w2 ⟨rfl, rfl⟩
                  clear sS
                  go_wp2
                  go_ret
                  rw [HR.out]
                  exact ⟨rfl, HP.out _⟩
              · rw [hbst] at hO0 h2
                obtain ⟨AN, cN0, rfl⟩ := Own.slice h2.1
                obtain ⟨AC, cC0, rfl⟩ := Own.slice h2.2.1
                have cO := cell_of_one hO0
                have cN := cell_of_one hN
                have cC := cell_of_one hC
                have HRS : Hid (roomB x2 (now.length + 1 + fs.length) = decide (b.length < now.length + 1 + fs.length)) := Lib.hid (room_some hbst)
                dsimp only [Option.getD_some] at cC
                have hfl := HFL.out
                by_cases hbl : b.length < now.length + 1 + fs.length
                · have hq : decide ((now.length : Int) + 1 + ((F.length : Int) - n - 1) ≤ b.length) = false := decide_eq_false (by omega)
                  have hq2 : ¬ ((now.length : Int) + 1 + ((F.length : Int) - n - 1) ≤ b.length) := by omega
                  have HRM : Hid (roomB x2 (now.length + 1 + fs.length) = true) := Lib.hid (by rw [HRS.out]; exact decide_eq_true hbl)
                  clear hfl hK0 hT0 hO0 hN hC h2 hbst
                  by_cases hml : x2.made < lim
                  · obtain ⟨hK, hm2, hT, hO, vN, vC, hN, hC, h2⟩ := HS.out
                    have sS := (HX.out _ hK).2.2.2.1
                    have hz : decide ((1 : Int) ≤ (lim : Int) - x2.made) = true := decide_eq_true (by omega)
                    have CS := Lib.hid (step41 bT _ wr hT ⟨by omega, by omega⟩ hz)
                    have HE : Hid (((ordL l f).take (m + 1)).foldl (tryS l lim (srch l lim fs) fs.length now) (some x) = srch l lim fs (now ++ [(n1 : Int)]) ⟨x2.made + 1, x2.best⟩) := Lib.hid (by rw [HSU.out, try_go HFT.out HRM.out hml])
                    clear hT hO hN hC h2 hz hK
                    go_wp2_with fail
                    refine CS.out.mono ?_
                    rintro e w2 ⟨rfl, hw2⟩
                    have HS2 : Hid (StX w0 base D lim bN bC bO bT w2 now ⟨x2.made + 1, x2.best⟩) := Lib.hid (by rw [hw2]; exact StX.step hd.out HS.out hml)
                    clear hw2 sS
                    obtain ⟨hK, hm3, hT, hO, vN, vC, hN, hC, h2⟩ := HS2.out
                    have cN := cell_of_one hN
                    have hbase := hK.size
                    have HN2 := Lib.hid hN
                    have HC2 := Lib.hid hC
                    clear hT hO hN hC hK
                    go_wp2_with (at_builtin; refine Two2.app h2 (n1 : Int) rfl _ _ rfl rfl rfl hnow hbase ?_; clear h2 cN; intro v4 w5 h24 hb4; obtain ⟨A4, c4, rfl⟩ := Own.slice h24.1; rw [show (now ++ [(n1 : Int)]).length = now.length + 1 by simp] at h24; have hN5 : One1 w5 bN vN 23 := (hb4.block _ hd.out.2.1.1).trans HN2.out; have cN5 := cell_of_one hN5; have fN5 := free_of_one hN5; have HS5 : Hid (StX w0 base D lim bN bC bO bT (w5.setCell ⟨bN, 0, none⟩ (.slice A4 (now.length + 1) c4)) (now ++ [(n1 : Int)]) ⟨x2.made + 1, x2.best⟩) := Lib.hid (StX.put hd.out HS2.out hb4 HC2.out h24); have sR5 := (HX.out _ HS5.out.1).2.2.2.2.1; clear h24 hb4 hN5)
                    refine (ih (n + 1) (now ++ [(n1 : Int)]) ⟨x2.made + 1, x2.best⟩ _ HDR.out (by omega) HIN2.out (by simp; omega) HS5.out).mono ?_
                    rintro e w6 hpost
                    clear cN5 fN5 sR5
                    rcases ho : srch l lim fs (now ++ [(n1 : Int)]) ⟨x2.made + 1, x2.best⟩ with _ | y
                    · rw [ho] at hpost
                      obtain ⟨rfl, hK6, v6, hC6⟩ := hpost
                      have HR : Hid (srch l lim (f :: fs) now x = none) := Lib.hid (fold_none_all (m := m + 1) (by rw [HE.out, ho]))
                      clear ho
                      have HP : Hid (Kp w0 base D w6 ∧ ∃ v, One1 w6 bC v 23) := Lib.hid ⟨hK6, v6, hC6⟩
                      clear hK6 hC6
                      go_wp2
                      go_ret
                      rw [HR.out]
                      exact ⟨rfl, HP.out⟩
                    · rw [ho] at hpost
                      obtain ⟨rfl, hS6⟩ := hpost
                      have HE2 : Hid (((ordL l f).take (m + 1)).foldl (tryS l lim (srch l lim fs) fs.length now) (some x) = some y) := Lib.hid (by rw [HE.out, ho])
                      have HS6 := Lib.hid hS6
                      obtain ⟨hK, hm3, hT, hO, vN6, vC6, hN, hC, h2⟩ := hS6
                      obtain ⟨A6, c6, rfl⟩ := Own.slice h2.1
                      obtain ⟨g6, rfl, hl6, hc6⟩ := own_addr h2.1
                      rw [hl6] at hN
                      have cN := cell_of_one hN
                      have fN := free_of_one hN
                      have HN6 := Lib.hid hN
                      clear ho hT hO hN hC h2 hK hl6
                      go_wp2
                      go_roundw
                      case rel => exact ⟨m + 1, y, by omega, by go_num, HE2, Lib.hid (StX.pop hd.out HS6.out HN6.out)⟩
                      case measure => simp [intOf]; omega
                  · obtain ⟨hK, hm2, hT, hO, vN, vC, hN, hC, h2⟩ := HS.out
                    have sS := (HX.out _ hK).2.2.2.1
                    have hz : decide ((1 : Int) ≤ (lim : Int) - x2.made) = false := decide_eq_false (by omega)
                    have CS := Lib.hid (step41 bT _ wr hT ⟨by omega, by omega⟩ hz)
                    have HR : Hid (srch l lim (f :: fs) now x = none) := Lib.hid (fold_none_all (m := m + 1) (by rw [HSU.out, try_full HFT.out HRM.out hml]))
                    have HP : Hid (∀ v, Kp w0 base D (wr.setCell ⟨bT, 0, none⟩ v) ∧ ∃ u, One1 (wr.setCell ⟨bT, 0, none⟩ v) bC u 23) := Lib.hid (fun v => ⟨hK.setD hd.out.1.2.2.2 _, _, hC.other (by simpa using hd.out.2.2.2.2.2.2.1) _⟩)
                    clear hT hO hN hC h2 hz hK
                    go_wp2_with fail
                    refine CS.out.mono ?_
                    rintro e w2 ⟨rfl, rfl⟩
                    clear sS
                    go_wp2
                    go_ret
                    rw [HR.out]
                    exact ⟨rfl, HP.out _⟩
                · have hq : decide ((now.length : Int) + 1 + ((F.length : Int) - n - 1) ≤ b.length) = true := decide_eq_true (by omega)
                  have hq2 : (now.length : Int) + 1 + ((F.length : Int) - n - 1) ≤ b.length := by omega
                  have HRM : Hid (roomB x2 (now.length + 1 + fs.length) = false) := Lib.hid (by rw [HRS.out]; exact decide_eq_false hbl)
                  clear hfl hK0 hT0 hO0 hN hC h2 hbst
                  go_wp2_with fail
                  go_meet
                  exact ⟨x2, fold_rest HFM.out HRM.out, HS.out⟩
        · obtain rfl : m = (ordL l f).length := by omega
          have hd2 : decide ((ordL l f).length < (ordL l f).length) = false := decide_eq_false (by omega)
          have HFO : Hid ((ordL l f).foldl (tryS l lim (srch l lim fs) fs.length now) (some x) = some x2) := Lib.hid (by have := HFM.out; rwa [List.take_length] at this)
          clear hT hO hN hC h2 hK
          go_wp2_with fail
          go_meet
          exact ⟨x2, HFO.out, HS.out⟩
    case rest =>
      obtain ⟨x2, hfo, hS⟩ := hcut
      have HFO := Lib.hid hfo
      have HS := Lib.hid hS
      clear hfo hS HS5
      obtain ⟨hK0, hm20, hT0, hO0, vN, vC, hN, hC, h2⟩ := HS.out
      rcases hbst : x2.best with _ | b
      · rw [hbst] at hO0
        have cO := cell_of_one hO0
        have HRM : Hid (roomB x2 (now.length + fs.length) = true) := Lib.hid (room_none hbst)
        clear hK0 hT0 hO0 hN hC h2 hbst
        by_cases hml : x2.made < lim
        · obtain ⟨hK, hm2, hT, hO, vN, vC, hN, hC, h2⟩ := HS.out
          have sS := (HX.out _ hK).2.2.2.1
          have hz : decide ((1 : Int) ≤ (lim : Int) - x2.made) = true := decide_eq_true (by omega)
          have CS := Lib.hid (step41 bT _ wc hT ⟨by omega, by omega⟩ hz)
          have HE : Hid (srch l lim (f :: fs) now x = srch l lim fs now ⟨x2.made + 1, x2.best⟩) := Lib.hid (by rw [fold_all HFO.out, last_go HRM.out hml])
          clear hT hO hN hC h2 hz hK
          go_wp2_with fail
          refine CS.out.mono ?_
          rintro e w2 ⟨rfl, hw2⟩
          have HS2 : Hid (StX w0 base D lim bN bC bO bT w2 now ⟨x2.made + 1, x2.best⟩) := Lib.hid (by rw [hw2]; exact StX.step hd.out HS.out hml)
          clear hw2 sS
          have sR5 := (HX.out _ HS2.out.1).2.2.2.2.1
          go_wp2_with fail
          refine (ih (n + 1) now ⟨x2.made + 1, x2.best⟩ _ HDR.out (by omega) HIN.out (by omega) HS2.out).mono ?_
          rintro e w6 hpost
          clear sR5
          rcases ho : srch l lim fs now ⟨x2.made + 1, x2.best⟩ with _ | y
          · rw [ho] at hpost
            obtain ⟨rfl, HP⟩ := hpost
            replace HP := Lib.hid HP
            replace HE := Lib.hid (HE.out.trans ho)
            clear ho
            go_wp2
            go_ret
            rw [HE.out]
            exact ⟨rfl, HP.out⟩
          · rw [ho] at hpost
            obtain ⟨rfl, HP⟩ := hpost
            replace HP := Lib.hid HP
            replace HE := Lib.hid (HE.out.trans ho)
            clear ho
            go_wp2
            go_ret
            rw [HE.out]
            exact ⟨rfl, HP.out⟩
        · obtain ⟨hK, hm2, hT, hO, vN, vC, hN, hC, h2⟩ := HS.out
          have sS := (HX.out _ hK).2.2.2.1
          have hz : decide ((1 : Int) ≤ (lim : Int) - x2.made) = false := decide_eq_false (by omega)
          have CS := Lib.hid (step41 bT _ wc hT ⟨by omega, by omega⟩ hz)
          have HR : Hid (srch l lim (f :: fs) now x = none) := Lib.hid (by rw [fold_all HFO.out, last_full HRM.out hml])
          have HP : Hid (∀ v, Kp w0 base D (wc.setCell ⟨bT, 0, none⟩ v) ∧ ∃ u, One1 (wc.setCell ⟨bT, 0, none⟩ v) bC u 23) := Lib.hid (fun v => ⟨hK.setD hd.out.1.2.2.2 _, _, hC.other (by simpa using hd.out.2.2.2.2.2.2.1) _⟩)
          clear hT hO hN hC h2 hz hK
          go_wp2_with fail
          refine CS.out.mono ?_
          rintro e w2 ⟨rfl, rfl⟩
          clear sS
          go_wp2
          go_ret
          rw [HR.out]
          exact ⟨rfl, HP.out _⟩
      · rw [hbst] at hO0 h2
        obtain ⟨AN, cN0, rfl⟩ := Own.slice h2.1
        obtain ⟨AC, cC0, rfl⟩ := Own.slice h2.2.1
        have cO := cell_of_one hO0
        have cN := cell_of_one hN
        have cC := cell_of_one hC
        have HRS : Hid (roomB x2 (now.length + fs.length) = decide (b.length < now.length + fs.length)) := Lib.hid (room_some hbst)
        dsimp only [Option.getD_some] at cC
        have hfl := HFL.out
        by_cases hbl : b.length < now.length + fs.length
        · have hq : decide ((now.length : Int) + ((F.length : Int) - n - 1) ≤ b.length) = false := decide_eq_false (by omega)
          have hq2 : ¬ ((now.length : Int) + ((F.length : Int) - n - 1) ≤ b.length) := by omega
          have HRM : Hid (roomB x2 (now.length + fs.length) = true) := Lib.hid (by rw [HRS.out]; exact decide_eq_true hbl)
          clear hfl hK0 hT0 hO0 hN hC h2 hbst
          by_cases hml : x2.made < lim
          · obtain ⟨hK, hm2, hT, hO, vN, vC, hN, hC, h2⟩ := HS.out
            have sS := (HX.out _ hK).2.2.2.1
            have hz : decide ((1 : Int) ≤ (lim : Int) - x2.made) = true := decide_eq_true (by omega)
            have CS := Lib.hid (step41 bT _ wc hT ⟨by omega, by omega⟩ hz)
            have HE : Hid (srch l lim (f :: fs) now x = srch l lim fs now ⟨x2.made + 1, x2.best⟩) := Lib.hid (by rw [fold_all HFO.out, last_go HRM.out hml])
            clear hT hO hN hC h2 hz hK
            go_wp2_with fail
            refine CS.out.mono ?_
            rintro e w2 ⟨rfl, hw2⟩
            have HS2 : Hid (StX w0 base D lim bN bC bO bT w2 now ⟨x2.made + 1, x2.best⟩) := Lib.hid (by rw [hw2]; exact StX.step hd.out HS.out hml)
            clear hw2 sS
            have sR5 := (HX.out _ HS2.out.1).2.2.2.2.1
            go_wp2_with fail
            refine (ih (n + 1) now ⟨x2.made + 1, x2.best⟩ _ HDR.out (by omega) HIN.out (by omega) HS2.out).mono ?_
            rintro e w6 hpost
            clear sR5
            rcases ho : srch l lim fs now ⟨x2.made + 1, x2.best⟩ with _ | y
            · rw [ho] at hpost
              obtain ⟨rfl, HP⟩ := hpost
              replace HP := Lib.hid HP
              replace HE := Lib.hid (HE.out.trans ho)
              clear ho
              go_wp2
              go_ret
              rw [HE.out]
              exact ⟨rfl, HP.out⟩
            · rw [ho] at hpost
              obtain ⟨rfl, HP⟩ := hpost
              replace HP := Lib.hid HP
              replace HE := Lib.hid (HE.out.trans ho)
              clear ho
              go_wp2
              go_ret
              rw [HE.out]
              exact ⟨rfl, HP.out⟩
          · obtain ⟨hK, hm2, hT, hO, vN, vC, hN, hC, h2⟩ := HS.out
            have sS := (HX.out _ hK).2.2.2.1
            have hz : decide ((1 : Int) ≤ (lim : Int) - x2.made) = false := decide_eq_false (by omega)
            have CS := Lib.hid (step41 bT _ wc hT ⟨by omega, by omega⟩ hz)
            have HR : Hid (srch l lim (f :: fs) now x = none) := Lib.hid (by rw [fold_all HFO.out, last_full HRM.out hml])
            have HP : Hid (∀ v, Kp w0 base D (wc.setCell ⟨bT, 0, none⟩ v) ∧ ∃ u, One1 (wc.setCell ⟨bT, 0, none⟩ v) bC u 23) := Lib.hid (fun v => ⟨hK.setD hd.out.1.2.2.2 _, _, hC.other (by simpa using hd.out.2.2.2.2.2.2.1) _⟩)
            clear hT hO hN hC h2 hz hK
            go_wp2_with fail
            refine CS.out.mono ?_
            rintro e w2 ⟨rfl, rfl⟩
            clear sS
            go_wp2
            go_ret
            rw [HR.out]
            exact ⟨rfl, HP.out _⟩
        · have hq : decide ((now.length : Int) + ((F.length : Int) - n - 1) ≤ b.length) = true := decide_eq_true (by omega)
          have hq2 : (now.length : Int) + ((F.length : Int) - n - 1) ≤ b.length := by omega
          have HR : Hid (srch l lim (f :: fs) now x = some x2) := Lib.hid (by rw [fold_all HFO.out, last_no (by rw [HRS.out]; exact decide_eq_false hbl)])
          clear hfl hK0 hT0 hO0 hN hC h2 hbst
          go_wp2
          go_ret
          rw [HR.out]
          exact ⟨rfl, HS.out⟩
end Go.Proofs
