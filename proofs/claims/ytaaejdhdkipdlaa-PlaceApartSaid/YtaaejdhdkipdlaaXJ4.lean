/- Lemmas and walks; no statement of a law is proved here. -/
import Derived.Test.YtaaejdhdkipdlaaXJ3
set_option linter.unusedVariables false
set_option linter.unusedSimpArgs false
namespace Go.Proofs
open Go.RowKit Go.Proofs.Mp Go.Proofs.Uf

theorem Mp.OwnA.keptN {α : Type} {e k : Nat} {enc : α → List Value} {w w' : World} {base : Nat} {av : Nat → Prop} {v : Value} {xs : List α} (h : OwnA e k enc w base av v xs) (hg : w.grownBy w' none) : OwnA e k enc w' base av v xs := by
  refine h.kept hg ?_
  rcases v.ownBlock with _ | q
  · exact .inl rfl
  · exact .inr (by simp)
/-- the value v is a slice of slices that reads as gs -/
def GrpS (w : World) (v : Value) (gs : List (List Int)) : Prop :=
  ∃ A c ls, v = .slice A gs.length c ∧ ls.map (fun s : Option Addr × Nat × List Int => s.2.2) = gs ∧ RdS w A ls ∧ ∀ s ∈ ls, RdI w s.1 s.2.2
theorem GrpS.below {w w' : World} {v : Value} {gs : List (List Int)} (h : GrpS w v gs) (hb : Below w.heap.size w w') : GrpS w' v gs := by
  obtain ⟨A, c, ls, h1, h2, h3, h4⟩ := h
  exact ⟨A, c, ls, h1, h2, Rd.below h3 hb, fun s hs => (h4 s hs).below hb⟩
theorem GrpS.get {w wr : World} {A : Option Addr} {n c : Nat} {gs : List (List Int)} (h : GrpS w (.slice A n c) gs) (hb : Below w.heap.size w wr) {k : Nat} (hk : k < gs.length) :
    ∃ b off ni ci, A = some ⟨b, off, none⟩ ∧ b < w.heap.size ∧ wr.cell? ⟨b, off + k, none⟩ = some (.slice ni gs[k]!.length ci) ∧ RdI wr ni gs[k]! := by
  obtain ⟨A', c', ls, he, h2, h3, h4⟩ := h
  injection he with e1 e2 e3
  subst e1
  subst h2
  rw [List.length_map] at hk
  obtain ⟨b, off, hA, hlt, hc⟩ := RdS.get h3 hb hk
  have e : (ls.map fun s : Option Addr × Nat × List Int => s.2.2)[k]! = ls[k]!.2.2 := by
    rw [getElem!_pos _ k (by simpa using hk), getElem!_pos ls k hk, List.getElem_map]
  rw [e]
  exact ⟨b, off, ls[k]!.1, ls[k]!.2.1, hA, hlt, hc, (h4 _ (by rw [getElem!_pos ls k hk]; exact List.getElem_mem hk)).below hb⟩

theorem Mp.Nest.grpS {te ti : TypeId} {w : World} {base : Nat} {av : Nat → Prop} {v : Value} {gs : List (List Int)} (h : Nest te ti w base av v gs) : GrpS w v gs := by
  obtain ⟨vs, h1, h2, h3⟩ := h
  obtain ⟨A, c, rfl⟩ := Own.slice h2.1
  have hR : Rd 1 encV w A vs := Own.rd encV_len h2.1
  have key : ∀ i, i < vs.length → ∃ Ai ci, vs[i]! = .slice Ai gs[i]!.length ci ∧ RdI w Ai gs[i]! := fun i hi => by
    obtain ⟨Ai, ci, e⟩ := Own.slice (h3 i hi).1
    refine ⟨Ai, ci, e, ?_⟩
    have h4 := (h3 i hi).1
    rw [e] at h4
    exact Own.rd encI_len h4
  obtain ⟨f, hf⟩ : ∃ f : Nat → Option Addr × Nat, ∀ i, i < vs.length → vs[i]! = .slice (f i).1 gs[i]!.length (f i).2 ∧ RdI w (f i).1 gs[i]! := by
    refine ⟨fun i => if h : i < vs.length then ((key i h).choose, (key i h).choose_spec.choose) else (Option.none, 0), fun i h => ?_⟩
    simp only [h, dif_pos]
    exact (key i h).choose_spec.choose_spec
  refine ⟨A, c, (List.range gs.length).map fun i => ((f i).1, (f i).2, gs[i]!), by rw [h1], ?_, ?_, ?_⟩
  · rw [List.map_map]
    refine List.ext_getElem (by simp) fun i h5 h6 => ?_
    simp [h6]
  · rcases hR with h0 | ⟨b, off, hA, hb, hc⟩
    · subst h0
      refine .inl ?_
      have : gs.length = 0 := by simpa using h1.symm
      simp [this]
    · refine .inr ⟨b, off, hA, hb, fun j hj i u hu => ?_⟩
      have hj' : j < gs.length := by simpa using hj
      have e : ((List.range gs.length).map fun i => ((f i).1, (f i).2, gs[i]!))[j]! = ((f j).1, (f j).2, gs[j]!) := by
        rw [getElem!_pos _ j (by simpa using hj')]
        simp
      rw [e] at hu
      refine hc j (by omega) i u ?_
      rw [(hf j (by omega)).1]
      exact hu
  · intro s hs
    obtain ⟨i, hi, rfl⟩ := List.mem_map.1 hs
    exact (hf i (by rw [h1]; exact List.mem_range.1 hi)).2
end Go.Proofs
set_option linter.unusedVariables false
set_option linter.unusedSimpArgs false
namespace Go.Proofs
open Go.RowKit Go.Proofs.Mp Go.Proofs.Uf

/-- a list is returned; where it lies is told: where A leads, or in a new block -/
def RetRl (w : World) (A : Option Addr) (xs : List Int) (e : Ending) (w' : World) : Prop :=
  ∃ v, e = .returned v ∧ SlI w' v xs ∧ Below w.heap.size w w' ∧ ∀ j, v.ownBlock = some j → (∃ a, A = some a ∧ a.block = j) ∨ w.heap.size ≤ j
theorem RetRl.self {w w' : World} {A : Option Addr} {c : Nat} {xs : List Int} (hc : xs.length ≤ c) (hR : RdI w' A xs) (hb : Below w.heap.size w w') : RetRl w A xs (.returned (.slice A xs.length c)) w' := by
  refine ⟨_, rfl, ⟨A, c, rfl, hc, hR⟩, hb, fun j hj => .inl ?_⟩
  rcases A with _ | a
  · cases hj
  · exact ⟨a, rfl, by injection hj⟩
theorem RetRl.of_own {w w' : World} {A : Option Addr} {base : Nat} {v : Value} {xs : List Int} (h : OwnI 3 w' base v xs) (hb : Below w.heap.size w w') (hbase : w.heap.size ≤ base) : RetRl w A xs (.returned v) w' :=
  ⟨v, rfl, Mp.Own.sl h, hb, fun j hj => .inr (Nat.le_trans hbase (World.ownsRow.lt h j hj).1)⟩

set_option maxHeartbeats 1000000 in
theorem ref_with_l (A : Option Addr) (c : Nat) (n : Int) (l : List Int) (w : World) (hcap : l.length ≤ c) (hmax : l.length ≤ 1000000000) (hR : RdI w A l) :
    Calls Try.prog 56 #[.slice A l.length c, .int .i64 n] w (RetRl w A (withL l n)) := by
  have cH := ref_has A c n l w (by omega) hR
  by_cases hn : n ∈ l
  · have e1 : withL l n = l := by simp [withL, hn]
    rw [decide_eq_true hn] at cH
    rw [e1]
    clear hn e1
    go_enter Try.func56, Try.ntmps56
    go_wp2_with fail
    refine cH.mono ?_
    rintro e w1 ⟨rfl, hb1⟩
    go_wp2
    go_ret
    exact RetRl.self hcap (hR.below hb1) hb1
  · have e1 : withL l n = insU n l := by simp [withL, hn]
    rw [decide_eq_false hn] at cH
    rw [e1]
    have HN := Lib.hid hn
    clear hn e1
    go_enter Try.func56, Try.ntmps56
    go_wp2_with fail
    refine cH.mono ?_
    rintro e w1 ⟨rfl, hb1⟩
    have hR1 := hR.below hb1
    clear hR
    go_wp2_with fail
    go_loopw [5] (fun i wr => ∃ k : Nat, k ≤ l.length ∧ i = .int .i64 k ∧ (∀ j, j < k → l[j]! < n) ∧ Below w1.heap.size w1 wr) (fun i _ => l.length - (intOf i).toNat)
    case atStart => exact ⟨0, by omega, rfl, fun j hj => by omega, Below.refl _ _⟩
    case round =>
      obtain ⟨k, hk, rfl, hpre, hbw⟩ := hrel
      by_cases hkl : k < l.length
      · obtain ⟨b, off, rfl, hb, g1⟩ := RdI.get hR1 hbw hkl
        obtain ⟨x, hx⟩ : ∃ x, l[k]! = x := ⟨_, rfl⟩
        rw [hx] at g1
        have HX := Lib.hid hx
        clear hx
        by_cases hxn : x < n
        · go_wp2
          go_roundw
          case rel => exact ⟨k + 1, by omega, by go_num, fun j hj => by
            rcases Nat.lt_succ_iff_lt_or_eq.1 hj with h2 | rfl
            · exact hpre j h2
            · rw [HX.out]; exact hxn, hbw⟩
          case measure => simp [intOf]; omega
        · have hfin : insU n l = l.take k ++ n :: l.drop k := insU_at n l k hk hpre (fun _ => by
            rw [HX.out]
            have : x ≠ n := by
              rintro rfl
              exact HN.out (by rw [← HX.out]; simp [hkl])
            omega)
          have hck : ¬ c = k := by omega
          have hs0 := hbw.size
          have hlk : (l.take k).length = k := by simp; omega
          have hld : (l.drop k).length = l.length - k := by simp
          have hO : OwnI 3 (wr.alloc (.cells #[] 3)) wr.heap.size (.slice (some ⟨wr.heap.size, 0, none⟩) 0 0) [] := own_made wr
          have hRk : RdI (wr.alloc (.cells #[] 3)) (some ⟨b, off, none⟩) (l.take k) := ((hR1.below hbw).alloc _).take k
          have hRdrop : RdI w1 (some ⟨b, off + k, none⟩) (l.drop k) := rd_drop1 hR1 k
          have hba : Below wr.heap.size wr (wr.alloc (.cells #[] 3)) := (Below.refl _ _).alloc (Nat.le_refl _) _
          go_wp2_with (at_builtin; refine Try.appAll hO hRk rfl _ _ rfl rfl (by rw [hlk]; rfl) (by rw [hlk]; simp; omega) (by simp) ?_; clear hO hRk; intro v2 w2 hown2 hb2)
          have hown2' : OwnI 3 w2.drew wr.heap.size v2 (l.take k) := by simpa using Own.below hown2 ((Below.refl _ _).drew)
          have kd : Below wr.heap.size wr w2.drew := (hba.trans hb2).drew
          have kds := kd.size
          clear hown2
          go_region_held3 (fun _ => True) (trivial)
            (first
              | (refine Try.stepI hown2' n rfl _ _ rfl rfl rfl (by rw [hlk]; omega) kds ?_; clear hown2'; intro v3 w3 hown3 hb3; have k3 := kd.trans hb3; have k3s := k3.size; have hRd3 := hRdrop.below (hbw.trans (k3.mono hs0)))
              | (refine Try.stepAll hown3 hRd3 rfl _ _ rfl rfl (by rw [hld]; rfl) (by simp; omega) k3s ?_; clear hown3 hRd3; intro v4 w4 hown4 hb4))
          go_wp2
          go_ret
          rw [hfin]
          have k4 := hb1.trans ((hbw.trans ((k3.trans hb4).mono hs0)).mono hb1.size)
          simp only [List.append_assoc, List.singleton_append] at hown4
          exact RetRl.of_own hown4 k4 (Nat.le_trans hb1.size hs0)
      · have hfin : insU n l = l.take k ++ n :: l.drop k := insU_at n l k hk hpre (fun h => absurd h hkl)
        obtain rfl : k = l.length := by omega
        clear hkl hk
        by_cases hck : c = l.length
        · rcases A with _ | ⟨b, off, tg⟩
          · have hs0 := hbw.size
            have hlk : (l.take l.length).length = l.length := by simp
            have hld : (l.drop l.length).length = 0 := by simp
            have hO : OwnI 3 (wr.alloc (.cells #[] 3)) wr.heap.size (.slice (some ⟨wr.heap.size, 0, none⟩) 0 0) [] := own_made wr
            have hRk : RdI (wr.alloc (.cells #[] 3)) none (l.take l.length) := ((hR1.below hbw).alloc _).take _
            have hRdrop : RdI w1 none (l.drop l.length) := by rw [List.drop_length]; exact Rd.nil _
            have hba : Below wr.heap.size wr (wr.alloc (.cells #[] 3)) := (Below.refl _ _).alloc (Nat.le_refl _) _
            go_wp2_with (at_builtin; refine Try.appAll hO hRk rfl _ _ rfl rfl (by rw [hlk]; rfl) (by rw [hlk]; simp; omega) (by simp) ?_; clear hO hRk; intro v2 w2 hown2 hb2)
            have hown2' : OwnI 3 w2.drew wr.heap.size v2 (l.take l.length) := by simpa using Own.below hown2 ((Below.refl _ _).drew)
            have kd : Below wr.heap.size wr w2.drew := (hba.trans hb2).drew
            have kds := kd.size
            clear hown2
            go_region_held3 (fun _ => True) (trivial)
              (first
                | (refine Try.stepI hown2' n rfl _ _ rfl rfl rfl (by rw [hlk]; omega) kds ?_; clear hown2'; intro v3 w3 hown3 hb3; have k3 := kd.trans hb3; have k3s := k3.size; have hRd3 := hRdrop.below (hbw.trans (k3.mono hs0)))
                | (refine Try.stepAll hown3 hRd3 rfl _ _ rfl rfl (by rw [hld]; rfl) (by simp; omega) k3s ?_; clear hown3 hRd3; intro v4 w4 hown4 hb4))
            go_wp2
            go_ret
            rw [hfin]
            have k4 := hb1.trans ((hbw.trans ((k3.trans hb4).mono hs0)).mono hb1.size)
            simp only [List.append_assoc, List.singleton_append] at hown4
            exact RetRl.of_own hown4 k4 (Nat.le_trans hb1.size hs0)
          · have hs0 := hbw.size
            have hlk : (l.take l.length).length = l.length := by simp
            have hld : (l.drop l.length).length = 0 := by simp
            have hO : OwnI 3 (wr.alloc (.cells #[] 3)) wr.heap.size (.slice (some ⟨wr.heap.size, 0, none⟩) 0 0) [] := own_made wr
            have hRk : RdI (wr.alloc (.cells #[] 3)) (some ⟨b, off, tg⟩) (l.take l.length) := ((hR1.below hbw).alloc _).take _
            have hRdrop : RdI w1 (some ⟨b, off, tg⟩) (l.drop l.length) := by rw [List.drop_length]; exact Rd.nil _
            have hba : Below wr.heap.size wr (wr.alloc (.cells #[] 3)) := (Below.refl _ _).alloc (Nat.le_refl _) _
            go_wp2_with (at_builtin; refine Try.appAll hO hRk rfl _ _ rfl rfl (by rw [hlk]; rfl) (by rw [hlk]; simp; omega) (by simp) ?_; clear hO hRk; intro v2 w2 hown2 hb2)
            have hown2' : OwnI 3 w2.drew wr.heap.size v2 (l.take l.length) := by simpa using Own.below hown2 ((Below.refl _ _).drew)
            have kd : Below wr.heap.size wr w2.drew := (hba.trans hb2).drew
            have kds := kd.size
            clear hown2
            go_region_held3 (fun _ => True) (trivial)
              (first
                | (refine Try.stepI hown2' n rfl _ _ rfl rfl rfl (by rw [hlk]; omega) kds ?_; clear hown2'; intro v3 w3 hown3 hb3; have k3 := kd.trans hb3; have k3s := k3.size; have hRd3 := hRdrop.below (hbw.trans (k3.mono hs0)))
                | (refine Try.stepAll hown3 hRd3 rfl _ _ rfl rfl (by rw [hld]; rfl) (by simp; omega) k3s ?_; clear hown3 hRd3; intro v4 w4 hown4 hb4))
            go_wp2
            go_ret
            rw [hfin]
            have k4 := hb1.trans ((hbw.trans ((k3.trans hb4).mono hs0)).mono hb1.size)
            simp only [List.append_assoc, List.singleton_append] at hown4
            exact RetRl.of_own hown4 k4 (Nat.le_trans hb1.size hs0)
        · rcases A with _ | ⟨b, off, tg⟩
          · have hs0 := hbw.size
            have hlk : (l.take l.length).length = l.length := by simp
            have hld : (l.drop l.length).length = 0 := by simp
            have hO : OwnI 3 (wr.alloc (.cells #[] 3)) wr.heap.size (.slice (some ⟨wr.heap.size, 0, none⟩) 0 0) [] := own_made wr
            have hRk : RdI (wr.alloc (.cells #[] 3)) none (l.take l.length) := ((hR1.below hbw).alloc _).take _
            have hRdrop : RdI w1 none (l.drop l.length) := by rw [List.drop_length]; exact Rd.nil _
            have hba : Below wr.heap.size wr (wr.alloc (.cells #[] 3)) := (Below.refl _ _).alloc (Nat.le_refl _) _
            go_wp2_with (at_builtin; refine Try.appAll hO hRk rfl _ _ rfl rfl (by rw [hlk]; rfl) (by rw [hlk]; simp; omega) (by simp) ?_; clear hO hRk; intro v2 w2 hown2 hb2)
            have hown2' : OwnI 3 w2.drew wr.heap.size v2 (l.take l.length) := by simpa using Own.below hown2 ((Below.refl _ _).drew)
            have kd : Below wr.heap.size wr w2.drew := (hba.trans hb2).drew
            have kds := kd.size
            clear hown2
            go_region_held3 (fun _ => True) (trivial)
              (first
                | (refine Try.stepI hown2' n rfl _ _ rfl rfl rfl (by rw [hlk]; omega) kds ?_; clear hown2'; intro v3 w3 hown3 hb3; have k3 := kd.trans hb3; have k3s := k3.size; have hRd3 := hRdrop.below (hbw.trans (k3.mono hs0)))
                | (refine Try.stepAll hown3 hRd3 rfl _ _ rfl rfl (by rw [hld]; rfl) (by simp; omega) k3s ?_; clear hown3 hRd3; intro v4 w4 hown4 hb4))
            go_wp2
            go_ret
            rw [hfin]
            have k4 := hb1.trans ((hbw.trans ((k3.trans hb4).mono hs0)).mono hb1.size)
            simp only [List.append_assoc, List.singleton_append] at hown4
            exact RetRl.of_own hown4 k4 (Nat.le_trans hb1.size hs0)
          · have hs0 := hbw.size
            have hlk : (l.take l.length).length = l.length := by simp
            have hld : (l.drop l.length).length = 0 := by simp
            have hO : OwnI 3 (wr.alloc (.cells #[] 3)) wr.heap.size (.slice (some ⟨wr.heap.size, 0, none⟩) 0 0) [] := own_made wr
            have hRk : RdI (wr.alloc (.cells #[] 3)) (some ⟨b, off, tg⟩) (l.take l.length) := ((hR1.below hbw).alloc _).take _
            have hRdrop : RdI w1 (some ((⟨b, off, tg⟩ : Addr).add l.length)) (l.drop l.length) := by rw [List.drop_length]; exact Rd.nil _
            have hba : Below wr.heap.size wr (wr.alloc (.cells #[] 3)) := (Below.refl _ _).alloc (Nat.le_refl _) _
            go_wp2_with (at_builtin; refine Try.appAll hO hRk rfl _ _ rfl rfl (by rw [hlk]; rfl) (by rw [hlk]; simp; omega) (by simp) ?_; clear hO hRk; intro v2 w2 hown2 hb2)
            have hown2' : OwnI 3 w2.drew wr.heap.size v2 (l.take l.length) := by simpa using Own.below hown2 ((Below.refl _ _).drew)
            have kd : Below wr.heap.size wr w2.drew := (hba.trans hb2).drew
            have kds := kd.size
            clear hown2
            go_region_held3 (fun _ => True) (trivial)
              (first
                | (refine Try.stepI hown2' n rfl _ _ rfl rfl rfl (by rw [hlk]; omega) kds ?_; clear hown2'; intro v3 w3 hown3 hb3; have k3 := kd.trans hb3; have k3s := k3.size; have hRd3 := hRdrop.below (hbw.trans (k3.mono hs0)))
                | (refine Try.stepAll hown3 hRd3 rfl _ _ rfl rfl (by rw [hld]; rfl) (by simp; omega) k3s ?_; clear hown3 hRd3; intro v4 w4 hown4 hb4))
            go_wp2
            go_ret
            rw [hfin]
            have k4 := hb1.trans ((hbw.trans ((k3.trans hb4).mono hs0)).mono hb1.size)
            simp only [List.append_assoc, List.singleton_append] at hown4
            exact RetRl.of_own hown4 k4 (Nat.le_trans hb1.size hs0)

set_option maxHeartbeats 1000000 in
theorem ref_normal_l (A : Option Addr) (c : Nat) (l : List Int) (w : World) (hmax : l.length ≤ 100000000) (hR : RdI w A l) :
    Calls Try.prog 40 #[.slice A l.length c] w (RetRl w none (putL [] l)) := by
  have hb0 : Below w.heap.size w (w.alloc (.cells #[] 3)) := (Below.refl _ _).alloc (Nat.le_refl _) _
  have hN0 : SlI (w.alloc (.cells #[] 3)) (.slice (some ⟨w.heap.size, 0, none⟩) 0 0) [] := ⟨_, 0, rfl, Nat.le_refl _, Rd.nil _⟩
  go_enter Try.func40, Try.ntmps40
  go_wp2_with fail
  go_loopw [3, 4] (fun v i wr => ∃ k : Nat, k ≤ l.length ∧ i = .int .i64 k ∧ SlI wr v (putL [] (l.take k)) ∧ (∀ j, v.ownBlock = some j → w.heap.size ≤ j) ∧ Below w.heap.size w wr) (fun _ i _ => l.length - (intOf i).toNat)
  case atStart => exact ⟨0, by omega, rfl, hN0, fun j hj => by injection hj with hj; exact Nat.le_of_eq hj, hb0⟩
  case round =>
    obtain ⟨k, hk, rfl, ⟨A', c', rfl, hc', hRo⟩, hlo, hbw⟩ := hrel
    by_cases hlt : k < l.length
    · obtain ⟨b, off, rfl, hb, g1⟩ := RdI.get hR hbw hlt
      have HX := Lib.hid (putL_take (o := []) hlt)
      have hle := putL_len [] (l.take k)
      have hle2 : (l.take k).length ≤ l.length := by simp; omega
      generalize l[k]! = x at *
      generalize putL [] (l.take k) = o at *
      simp only [List.length_nil] at hle
      have cW := ref_with_l A' c' x o wr hc' (by omega) hRo
      have hs := hbw.size
      go_wp2_with fail
      refine cW.mono ?_
      rintro e w1 ⟨v2, rfl, hS2, hb2, hl2⟩
      have hlo2 : ∀ j, v2.ownBlock = some j → w.heap.size ≤ j := fun j hj => by
        rcases hl2 j hj with ⟨a, ha, hj'⟩ | h
        · exact hlo j (by rw [ha]; simp [Value.ownBlock, hj'])
        · omega
      go_wp2
      go_roundw
      case rel => exact ⟨k + 1, by omega, by go_num, by rw [HX.out]; exact hS2, hlo2, hbw.trans (hb2.mono hs)⟩
      case measure => simp [intOf]; omega
    · obtain rfl : k = l.length := by omega
      simp only [List.take_length] at hRo hc' ⊢
      go_wp2
      go_ret
      exact ⟨.slice A' (putL [] l).length c', rfl, ⟨A', c', rfl, hc', hRo⟩, hbw, fun j hj => .inr (hlo j (by rcases A' with _ | a <;> first | (cases hj; done) | exact hj))⟩

theorem k_rnormal_l {w : World} {v : Value} {xs : List Int} (h : SlI w v xs) (h1 : xs.length ≤ 1000000) : Calls Try.prog 40 #[v] w (RetRl w none (setL xs)) := by
  obtain ⟨A, c, rfl, hc, hR⟩ := h
  rw [← put_normal]
  exact ref_normal_l A c xs w (by omega) hR
end Go.Proofs
set_option linter.unusedVariables false
set_option linter.unusedSimpArgs false
namespace Go.Proofs
open Go.RowKit Go.Proofs.Mp Go.Proofs.Uf

theorem RetRl.mono {w w1 w' : World} {xs : List Int} {e : Ending} (h : RetRl w1 none xs e w') (hb : Below w.heap.size w w1) : RetRl w none xs e w' := by
  obtain ⟨v, h1, h2, h3, h4⟩ := h
  refine ⟨v, h1, h2, hb.trans (h3.mono hb.size), fun j hj => ?_⟩
  rcases h4 j hj with ⟨a, ha, _⟩ | h
  · cases ha
  · exact .inr (Nat.le_trans hb.size h)

set_option maxHeartbeats 1000000 in
theorem ref_features (A : Option Addr) (c : Nat) (l : List Cand) (w : World) (hmax : l.length ≤ 1000) (hR : Rd 8 encC w A l) :
    Calls Try.prog 58 #[.slice A l.length c] w (RetRl w none (setL (feats l))) := by
  go_enter Try.func58, Try.ntmps58
  go_wp2_with fail
  go_loopw [3, 4] (fun v i wr => ∃ k : Nat, k ≤ l.length ∧ i = .int .i64 k ∧ OwnI 3 wr w.heap.size v (feats (l.take k)) ∧ Below w.heap.size w wr) (fun _ i _ => l.length - (intOf i).toNat)
  case atStart => exact ⟨0, by omega, rfl, Own.nil _ _, Below.refl _ _⟩
  case round =>
    obtain ⟨k, hk, rfl, hown, hbw⟩ := hrel
    by_cases hlt : k < l.length
    · obtain ⟨b, off, rfl, hb, c0, _, _, _, _, _, _, _⟩ := RdC.get hR hbw hlt
      have HX := Lib.hid (feats_take hlt)
      have hlen := feats_take_len l k
      have hbs := hbw.size
      generalize l[k]! = x at *
      generalize feats (l.take k) = fs at *
      go_wp2_with (at_builtin; refine Try.appI hown x.f rfl _ _ rfl rfl rfl (by omega) hbs ?_; clear hown; intro v1 w1 hown1 hb1)
      go_roundw
      case rel => exact ⟨k + 1, by omega, by go_num, by rw [HX.out]; exact hown1, hbw.trans hb1⟩
      case measure => simp [intOf]; omega
    · obtain rfl : k = l.length := by omega
      rw [List.take_length] at hown
      have cN := k_rnormal_l (Mp.Own.sl hown) (by rw [feats_len]; omega)
      go_wp2_with fail
      refine cN.mono ?_
      intro e w1 h
      obtain ⟨v, rfl, h2, h3, h4⟩ := h.mono hbw
      go_wp2
      go_ret
      exact ⟨v, rfl, h2, h3, h4⟩

/-- how many candidates' features are not yet among out -/
def remL (l : List Cand) (out : List Int) : Nat := (l.filter fun x => !decide (x.f ∈ out)).length
theorem remL_add {l : List Cand} {out : List Int} {y : Cand} (hy : y ∈ l) (hn : y.f ∉ out) : remL l (out ++ [y.f]) + 1 ≤ remL l out := by
  unfold remL
  induction l with
  | nil => simp at hy
  | cons z zs ih =>
    rcases List.mem_cons.1 hy with rfl | hy'
    · have e1 : (!decide (y.f ∈ out ++ [y.f])) = false := by simp
      have e2 : (!decide (y.f ∈ out)) = true := by simp [hn]
      rw [List.filter_cons, List.filter_cons, e1, e2]
      simp only [Bool.false_eq_true, if_false, if_true, List.length_cons]
      have : (zs.filter fun x => !decide (x.f ∈ out ++ [y.f])).length ≤ (zs.filter fun x => !decide (x.f ∈ out)).length := by
        clear ih hy
        induction zs with
        | nil => simp
        | cons u us ih =>
          by_cases h : u.f ∈ out
          · simp [List.filter_cons, h]; simpa using ih
          · by_cases h2 : u.f = y.f
            · simp [List.filter_cons, h, h2, hn]; have := ih; simp at this; omega
            · simp [List.filter_cons, h, h2]; simpa using ih
      omega
    · have := ih hy'
      rw [List.filter_cons, List.filter_cons]
      by_cases h1 : z.f ∈ out
      · simp [h1]; simpa using this
      · by_cases h2 : z.f = y.f
        · simp [h1, h2, hn]; simp at this; omega
        · simp [h1, h2]; simpa using this

/-- the pairs of candidates before place i, m are closed under out -/
def closedTo (l : List Cand) (out : List Int) (i m : Nat) : Prop := ∀ i' m', (i' < i ∨ (i' = i ∧ m' < m)) → i' < l.length → m' < l.length → hitB l[i']! l[m']! = true → l[i']!.f ∈ out → l[m']!.f ∈ out
/-- what stands while a group is gathered -/
structure GI (l : List Cand) (f : Int) (n0 : Nat) (g : Bool) (i m : Nat) (out : List Int) : Prop where
  start : f ∈ out
  conn : ∀ z ∈ out, Conn (Ed l) f z
  bound : out.length + remL l out ≤ l.length + 1
  grow : n0 + (if g then 1 else 0) ≤ out.length
  closed : g = true ∨ closedTo l out i m

theorem GI.skip {l : List Cand} {f : Int} {n0 : Nat} {g : Bool} {i m : Nat} {out : List Int} (h : GI l f n0 g i m out) (hn : hitB l[i]! l[m]! = true → l[i]!.f ∈ out → l[m]!.f ∈ out) : GI l f n0 g i (m + 1) out := by
  refine ⟨h.start, h.conn, h.bound, h.grow, h.closed.imp id fun hc i' m' hlt h1 h2 h3 h4 => ?_⟩
  by_cases e : i' = i ∧ m' = m
  · obtain ⟨rfl, rfl⟩ := e; exact hn h3 h4
  · exact hc i' m' (by omega) h1 h2 h3 h4
theorem GI.add {l : List Cand} {f : Int} {n0 : Nat} {g : Bool} {i m : Nat} {out : List Int} (h : GI l f n0 g i m out) (hi : i < l.length) (hm : m < l.length) (h1 : hitB l[i]! l[m]! = true) (h2 : l[i]!.f ∈ out) (h3 : l[m]!.f ∉ out) :
    GI l f n0 true i (m + 1) (out ++ [l[m]!.f]) := by
  have hr := remL_add (l := l) (y := l[m]!) (by rw [getElem!_pos l m hm]; exact List.getElem_mem hm) h3
  have hb := h.bound
  refine ⟨by simp [h.start], fun z hz => ?_, by simp only [List.length_append, List.length_singleton]; omega, ?_, .inl rfl⟩
  · rcases List.mem_append.1 hz with hz | hz
    · exact h.conn z hz
    · simp only [List.mem_singleton] at hz
      subst hz
      exact (h.conn _ h2).trans (.edge ⟨i, m, hi, hm, h1, rfl, rfl⟩ (.refl _))
  · have := h.grow
    simp only [List.length_append, List.length_singleton, if_true]
    split at this <;> omega
theorem GI.row {l : List Cand} {f : Int} {n0 : Nat} {g : Bool} {i : Nat} {out : List Int} (h : GI l f n0 g i l.length out) : GI l f n0 g (i + 1) 0 out :=
  ⟨h.start, h.conn, h.bound, h.grow, h.closed.imp id fun hc i' m' hlt h1 h2 h3 h4 => hc i' m' (by omega) h1 h2 h3 h4⟩
theorem GI.done {l : List Cand} {f : Int} {n0 : Nat} {out : List Int} (h : GI l f n0 false l.length 0 out) (x : Int) : x ∈ out ↔ Conn (Ed l) f x := by
  constructor
  · exact h.conn x
  · have hcl := h.closed.resolve_left (by simp)
    have key : ∀ a b, Ed l a b → a ∈ out → b ∈ out := by
      rintro a b ⟨i, m, h1, h2, h3, rfl, rfl⟩ ha
      exact hcl i m (.inl h1) h1 h2 h3 ha
    have key2 : ∀ a b, Conn (Ed l) a b → a ∈ out → b ∈ out := by
      intro a b hc
      induction hc with
      | refl _ => exact id
      | edge e _ ih => exact fun ha => ih (key _ _ e ha)
      | back e _ ih =>
        obtain ⟨i, m, h1, h2, h3, e1, e2⟩ := e
        exact fun ha => ih (key _ _ ⟨m, i, h2, h1, by rw [hitB_comm]; exact h3, e2, e1⟩ ha)
    exact fun hc => key2 f x hc h.start

/-- the group of a feature -/
noncomputable def gS (l : List Cand) (f : Int) : List Int := (setL (feats l)).filter fun x => dec (Conn (Ed l) f x)
theorem gS_of {l : List Cand} {f : Int} (hf : f ∈ feats l) {out : List Int} (h : ∀ x, x ∈ out ↔ Conn (Ed l) f x) : setL out = gS l f := by
  refine Asc.unique (setL_asc _) (List.Pairwise.filter _ (setL_asc _)) fun x => ?_
  rw [setL_mem, h, gS, List.mem_filter, setL_mem, dec_iff]
  exact ⟨fun hc => ⟨conn_feat hc hf, hc⟩, fun hc => hc.2⟩
end Go.Proofs
