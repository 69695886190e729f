import Derived.Test.YtafaojmkbbhjmaaS7
set_option linter.unusedVariables false
set_option linter.unusedSimpArgs false
namespace Go.Proofs
open Go.RowKit Go.Proofs.Mp Go.Shelf Go.Lib Go.Sort

theorem ltLo (x y : Int × Int) : ltOf (fun x y : Int × Int => Lib.compareInt x.1 y.1) x y = decide (x.1 < y.1) := by
  unfold ltOf Lib.compareInt
  by_cases h1 : x.1 < y.1
  · simp [h1]
  · by_cases h2 : y.1 < x.1 <;> simp [h1, h2]
theorem swoLo : SWO (ltOf fun x y : Int × Int => Lib.compareInt x.1 y.1) where
  irrefl x := by rw [ltLo]; simp
  trans x y z h1 h2 := by rw [ltLo] at *; simp at *; omega
  ntrans x y z h1 h2 := by rw [ltLo] at *; simp at *; omega

theorem cmpLays25 (blk off size : Nat) (w : World) : CmpLays Try.prog 79 #[] encR 2 (fun x y : Int × Int => Lib.compareInt x.1 y.1) blk off size w := by
  intro m os dk _ x y
  refine (closure25 x y _).mono ?_
  rintro e w' ⟨he, rfl⟩
  exact ⟨he, 0, _, by rw [alloc_eq_grow, alloc_eq_grow, grow_grow]; rfl⟩

theorem getFlat (d : Array (Int × Int)) (t : Nat) (ht : t < d.size * 2) : (flatK encR 2 d)[t]! = (encR d[t / 2]!)[t % 2]! := get_flatK encR 2 d t ht

theorem holdsK_row {w : World} {g : Nat} {zs : List (Int × Int)} (h : Row w g 52 (zs.flatMap encR)) : HoldsK encR 2 w g 0 zs.toArray := by
  intro j hj
  rw [size_flatK] at hj
  simp only [List.size_toArray] at hj
  have h1 : j / 2 < zs.length := by omega
  have e0 : (flatK encR 2 zs.toArray)[j]! = (encR zs.toArray[j / 2]!)[j % 2]! := getFlat _ _ (by simpa using hj)
  have e1 : zs.toArray[j / 2]! = zs[j / 2]! := by simp
  refine ⟨?_, h.frozen _⟩
  rw [h.cell, e0, e1]
  have h2 : j % 2 < (encR zs[j / 2]!).length := by rw [encR_len]; omega
  have h3 := flat_get encR_len zs (j / 2) h1 (j % 2) _ (List.getElem?_eq_getElem h2)
  rw [show 0 + j = j / 2 * 2 + j % 2 from by omega, h3]
  show _ = some ((encR zs[j / 2]!)[j % 2]!)
  rw [getElem!_pos (encR zs[j / 2]!) (j % 2) h2]

theorem sortWorld_rd {w : World} {g n : Nat} {d d' : Array (Int × Int)} {os : Array Obj} (hb : g < w.heap.size) (hH : HoldsK encR 2 w g 0 d) (hs : d'.size = d.size) :
    Rd 2 encR (sortWorldK encR 2 w g 0 n d' os) (some ⟨g, 0, none⟩) d'.toList ∧ RowKit.Below g w (sortWorldK encR 2 w g 0 n d' os) := by
  have h1 : HoldsK encR 2 (sortWorldK encR 2 w g 0 n d' os) g 0 d' := by
    unfold sortWorldK
    refine holdsK_grow (enc := encR) (k := 2) _ _ _ _ _ (by simp [putRowK]; exact hb) ?_
    exact holdsK_putRowK (enc := encR) (k := 2) _ _ _ d d' (holdsK_ahead (enc := encR) (k := 2) _ _ _ _ _ hH) hs
  have hsz : g < (sortWorldK encR 2 w g 0 n d' os).heap.size := by
    unfold sortWorldK
    simp [putRowK]
    exact Nat.lt_of_lt_of_le hb (Nat.le_add_right _ _)
  refine ⟨?_, ?_⟩
  · rcases hd : d'.toList with _ | ⟨x, xs⟩
    · exact .inl rfl
    · rw [← hd]
      refine .inr ⟨g, 0, rfl, hsz, fun j hj i u hu => ?_⟩
      have hj' : j < d'.size := by simpa using hj
      have e1 : d'.toList[j]! = d'[j]! := by simp [hj']
      rw [e1] at hu
      have hi : i < 2 := by have := (List.getElem?_eq_some_iff.1 hu).1; rw [encR_len] at this; exact this
      have h2 := (h1.cell hj' hi).1
      rw [h2]
      congr 1
      have h3 : i < (encR d'[j]!).length := by rw [encR_len]; exact hi
      rw [getElem!_pos (encR d'[j]!) i h3]
      rw [List.getElem?_eq_getElem h3] at hu
      injection hu
  · unfold sortWorldK
    refine ⟨rfl, rfl, rfl, by simp [putRowK], fun k hk => ?_⟩
    rw [heap_grow_old _ _ (by simp [putRowK]; show k < w.heap.size; omega)]
    simp only [putRowK, putRow, mapBlock, Array.getElem?_modify]
    rw [if_neg (by omega)]
    rfl

set_option maxHeartbeats 1000000 in
/-- the sort of ranges: a sorted arrangement of what the row held -/
theorem sort_any (g cap : Nat) (zs : List (Int × Int)) (w : World) (hr : Row w g 52 (zs.flatMap encR)) (hsz : zs.length ≤ 1000000000000) :
    Calls Try.prog 78 #[.slice (some ⟨g, 0, none⟩) zs.length cap, .func (.func 79) #[] #[]] w fun e w' => e = .returned (.tuple #[]) ∧ ∃ p : List (Int × Int), p.Perm zs ∧ SortedLo p ∧ p.length = zs.length ∧ Rd 2 encR w' (some ⟨g, 0, none⟩) p ∧ RowKit.Below g w w' := by
  have eg : ∀ args w, (callFunc 79 args).run Try.prog w = .ok (.enter 79 args) w := enters_of Try.func79 (by kernel_rfl) rfl
  have hH := holdsK_row hr
  have hb := hr.lt
  have hcon := AnyQ.slices_SortFunc Try.laysSort 2 Try.isAgg52 Try.sizeOf52 encR encR_len encR_one (fun x y => Lib.compareInt x.1 y.1) swoLo 79 #[] g 0 cap zs.toArray w eg (cmpLays25 g 0 zs.toArray.size w) hH hb (by simp; omega)
  change Calls Try.prog 78 _ _ _ at hcon
  have e0 : zs.toArray.size = zs.length := by simp
  rw [e0] at hcon
  refine hcon.mono ?_
  rintro e w' ⟨he, d', n, os, hp, hs, rfl⟩
  obtain ⟨hp1, hp2, hp3⟩ := hp
  have hd : d'.size = zs.length := by rw [hp1, e0]
  have hx : (d'.extract 0 zs.length).toList = d'.toList := by rw [← hd]; simp
  have hy : (zs.toArray.extract 0 zs.length).toList = zs := by simp
  rw [hx, hy] at hp3
  obtain ⟨r1, r2⟩ := sortWorld_rd (n := n) (d' := d') (os := os) hb hH (by rw [hd, e0])
  refine ⟨he, d'.toList, hp3, ?_, by simpa using hd, r1, r2⟩
  unfold SortedLo
  rw [List.pairwise_iff_getElem]
  intro i j hi hj hij
  have h1 := hs i j (Nat.zero_le _) hij (by simpa [hd] using hj)
  rw [ltLo, decide_eq_false_iff_not] at h1
  have ei : d'.toList[i] = d'[i]! := by
    have : i < d'.size := by simpa using hi
    simp [this]
  have ej : d'.toList[j] = d'[j]! := by
    have : j < d'.size := by simpa using hj
    simp [this]
  rw [ei, ej]
  omega
end Go.Proofs
