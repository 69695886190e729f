import Derived.Test.YtoknjlodhohioaaT21
set_option linter.unusedVariables false
set_option linter.unusedSimpArgs false
namespace Go.Proofs
open Go.RowKit Go.Proofs.Mp Go.Proofs.Uf

/-- a list is returned; where it lies is told: where A leads, or in a new block -/
def RetRl (w : World) (A : Option Addr) (xs : List Int) (e : Ending) (w' : World) : Prop :=
  ∃ v, e = .returned v ∧ SlI w' v xs ∧ Below w.heap.size w w' ∧ ∀ j, v.ownBlock = some j → (∃ a, A = some a ∧ a.block = j) ∨ w.heap.size ≤ j
theorem RetRl.self {w w' : World} {A : Option Addr} {c : Nat} {xs : List Int} (hc : xs.length ≤ c) (hR : RdI w' A xs) (hb : Below w.heap.size w w') : RetRl w A xs (.returned (.slice A xs.length c)) w' := by
  refine ⟨_, rfl, ⟨A, c, rfl, hc, hR⟩, hb, fun j hj => .inl ?_⟩
  rcases A with _ | a
  · cases hj
  · exact ⟨a, rfl, by injection hj⟩
theorem RetRl.of_own {w w' : World} {A : Option Addr} {base : Nat} {v : Value} {xs : List Int} (h : OwnI 3 w' base v xs) (hb : Below w.heap.size w w') (hbase : w.heap.size ≤ base) : RetRl w A xs (.returned v) w' :=
  ⟨v, rfl, Mp.Own.sl h, hb, fun j hj => .inr (Nat.le_trans hbase (World.ownsRow.lt h j hj).1)⟩

set_option maxHeartbeats 1000000 in
theorem ref_with_l (A : Option Addr) (c : Nat) (n : Int) (l : List Int) (w : World) (hcap : l.length ≤ c) (hmax : l.length ≤ 1000000000) (hR : RdI w A l) :
    Calls Try.prog 35 #[.slice A l.length c, .int .i64 n] w (RetRl w A (withL l n)) := by
  have cH := ref_has A c n l w (by omega) hR
  by_cases hn : n ∈ l
  · have e1 : withL l n = l := by simp [withL, hn]
    rw [decide_eq_true hn] at cH
    rw [e1]
    clear hn e1
    go_enter Try.func35, Try.ntmps35
    go_wp2_with fail
    refine cH.mono ?_
    rintro e w1 ⟨rfl, hb1⟩
    go_wp2
    go_ret
    exact RetRl.self hcap (hR.below hb1) hb1
  · have e1 : withL l n = insU n l := by simp [withL, hn]
    rw [decide_eq_false hn] at cH
    rw [e1]
    have HN := Lib.hid hn
    clear hn e1
    go_enter Try.func35, Try.ntmps35
    go_wp2_with fail
    refine cH.mono ?_
    rintro e w1 ⟨rfl, hb1⟩
    have hR1 := hR.below hb1
    clear hR
    go_wp2_with fail
    go_loopw [5] (fun i wr => ∃ k : Nat, k ≤ l.length ∧ i = .int .i64 k ∧ (∀ j, j < k → l[j]! < n) ∧ Below w1.heap.size w1 wr) (fun i _ => l.length - (intOf i).toNat)
    case atStart => exact ⟨0, by omega, rfl, fun j hj => by omega, Below.refl _ _⟩
    case round =>
      obtain ⟨k, hk, rfl, hpre, hbw⟩ := hrel
      by_cases hkl : k < l.length
      · obtain ⟨b, off, rfl, hb, g1⟩ := RdI.get hR1 hbw hkl
        obtain ⟨x, hx⟩ : ∃ x, l[k]! = x := ⟨_, rfl⟩
        rw [hx] at g1
        have HX := Lib.hid hx
        clear hx
        by_cases hxn : x < n
        · go_wp2
          go_roundw
          case rel => exact ⟨k + 1, by omega, by go_num, fun j hj => by
            rcases Nat.lt_succ_iff_lt_or_eq.1 hj with h2 | rfl
            · exact hpre j h2
            · rw [HX.out]; exact hxn, hbw⟩
          case measure => simp [intOf]; omega
        · have hfin : insU n l = l.take k ++ n :: l.drop k := insU_at n l k hk hpre (fun _ => by
            rw [HX.out]
            have : x ≠ n := by
              rintro rfl
              exact HN.out (by rw [← HX.out]; simp [hkl])
            omega)
          have hck : ¬ c = k := by omega
          have hs0 := hbw.size
          have hlk : (l.take k).length = k := by simp; omega
          have hld : (l.drop k).length = l.length - k := by simp
          have hO : OwnI 3 (wr.alloc (.cells #[] 3)) wr.heap.size (.slice (some ⟨wr.heap.size, 0, none⟩) 0 0) [] := own_made wr
          have hRk : RdI (wr.alloc (.cells #[] 3)) (some ⟨b, off, none⟩) (l.take k) := ((hR1.below hbw).alloc _).take k
          have hRdrop : RdI w1 (some ⟨b, off + k, none⟩) (l.drop k) := rd_drop1 hR1 k
          have hba : Below wr.heap.size wr (wr.alloc (.cells #[] 3)) := (Below.refl _ _).alloc (Nat.le_refl _) _
          go_wp2_with (at_builtin; refine Try.appAll hO hRk rfl _ _ rfl rfl (by rw [hlk]; rfl) (by rw [hlk]; simp; omega) (by simp) ?_; clear hO hRk; intro v2 w2 hown2 hb2)
          have hown2' : OwnI 3 w2.drew wr.heap.size v2 (l.take k) := by simpa using Own.below hown2 ((Below.refl _ _).drew)
          have kd : Below wr.heap.size wr w2.drew := (hba.trans hb2).drew
          have kds := kd.size
          clear hown2
          go_region_held3 (fun _ => True) (trivial)
            (first
              | (refine Try.stepI hown2' n rfl _ _ rfl rfl rfl (by rw [hlk]; omega) kds ?_; clear hown2'; intro v3 w3 hown3 hb3; have k3 := kd.trans hb3; have k3s := k3.size; have hRd3 := hRdrop.below (hbw.trans (k3.mono hs0)))
              | (refine Try.stepAll hown3 hRd3 rfl _ _ rfl rfl (by rw [hld]; rfl) (by simp; omega) k3s ?_; clear hown3 hRd3; intro v4 w4 hown4 hb4))
          go_wp2
          go_ret
          rw [hfin]
          have k4 := hb1.trans ((hbw.trans ((k3.trans hb4).mono hs0)).mono hb1.size)
          simp only [List.append_assoc, List.singleton_append] at hown4
          exact RetRl.of_own hown4 k4 (Nat.le_trans hb1.size hs0)
      · have hfin : insU n l = l.take k ++ n :: l.drop k := insU_at n l k hk hpre (fun h => absurd h hkl)
        obtain rfl : k = l.length := by omega
        clear hkl hk
        by_cases hck : c = l.length
        · rcases A with _ | ⟨b, off, tg⟩
          · have hs0 := hbw.size
            have hlk : (l.take l.length).length = l.length := by simp
            have hld : (l.drop l.length).length = 0 := by simp
            have hO : OwnI 3 (wr.alloc (.cells #[] 3)) wr.heap.size (.slice (some ⟨wr.heap.size, 0, none⟩) 0 0) [] := own_made wr
            have hRk : RdI (wr.alloc (.cells #[] 3)) none (l.take l.length) := ((hR1.below hbw).alloc _).take _
            have hRdrop : RdI w1 none (l.drop l.length) := by rw [List.drop_length]; exact Rd.nil _
            have hba : Below wr.heap.size wr (wr.alloc (.cells #[] 3)) := (Below.refl _ _).alloc (Nat.le_refl _) _
            go_wp2_with (at_builtin; refine Try.appAll hO hRk rfl _ _ rfl rfl (by rw [hlk]; rfl) (by rw [hlk]; simp; omega) (by simp) ?_; clear hO hRk; intro v2 w2 hown2 hb2)
            have hown2' : OwnI 3 w2.drew wr.heap.size v2 (l.take l.length) := by simpa using Own.below hown2 ((Below.refl _ _).drew)
            have kd : Below wr.heap.size wr w2.drew := (hba.trans hb2).drew
            have kds := kd.size
            clear hown2
            go_region_held3 (fun _ => True) (trivial)
              (first
                | (refine Try.stepI hown2' n rfl _ _ rfl rfl rfl (by rw [hlk]; omega) kds ?_; clear hown2'; intro v3 w3 hown3 hb3; have k3 := kd.trans hb3; have k3s := k3.size; have hRd3 := hRdrop.below (hbw.trans (k3.mono hs0)))
                | (refine Try.stepAll hown3 hRd3 rfl _ _ rfl rfl (by rw [hld]; rfl) (by simp; omega) k3s ?_; clear hown3 hRd3; intro v4 w4 hown4 hb4))
            go_wp2
            go_ret
            rw [hfin]
            have k4 := hb1.trans ((hbw.trans ((k3.trans hb4).mono hs0)).mono hb1.size)
            simp only [List.append_assoc, List.singleton_append] at hown4
            exact RetRl.of_own hown4 k4 (Nat.le_trans hb1.size hs0)
          · have hs0 := hbw.size
            have hlk : (l.take l.length).length = l.length := by simp
            have hld : (l.drop l.length).length = 0 := by simp
            have hO : OwnI 3 (wr.alloc (.cells #[] 3)) wr.heap.size (.slice (some ⟨wr.heap.size, 0, none⟩) 0 0) [] := own_made wr
            have hRk : RdI (wr.alloc (.cells #[] 3)) (some ⟨b, off, tg⟩) (l.take l.length) := ((hR1.below hbw).alloc _).take _
            have hRdrop : RdI w1 (some ⟨b, off, tg⟩) (l.drop l.length) := by rw [List.drop_length]; exact Rd.nil _
            have hba : Below wr.heap.size wr (wr.alloc (.cells #[] 3)) := (Below.refl _ _).alloc (Nat.le_refl _) _
            go_wp2_with (at_builtin; refine Try.appAll hO hRk rfl _ _ rfl rfl (by rw [hlk]; rfl) (by rw [hlk]; simp; omega) (by simp) ?_; clear hO hRk; intro v2 w2 hown2 hb2)
            have hown2' : OwnI 3 w2.drew wr.heap.size v2 (l.take l.length) := by simpa using Own.below hown2 ((Below.refl _ _).drew)
            have kd : Below wr.heap.size wr w2.drew := (hba.trans hb2).drew
            have kds := kd.size
            clear hown2
            go_region_held3 (fun _ => True) (trivial)
              (first
                | (refine Try.stepI hown2' n rfl _ _ rfl rfl rfl (by rw [hlk]; omega) kds ?_; clear hown2'; intro v3 w3 hown3 hb3; have k3 := kd.trans hb3; have k3s := k3.size; have hRd3 := hRdrop.below (hbw.trans (k3.mono hs0)))
                | (refine Try.stepAll hown3 hRd3 rfl _ _ rfl rfl (by rw [hld]; rfl) (by simp; omega) k3s ?_; clear hown3 hRd3; intro v4 w4 hown4 hb4))
            go_wp2
            go_ret
            rw [hfin]
            have k4 := hb1.trans ((hbw.trans ((k3.trans hb4).mono hs0)).mono hb1.size)
            simp only [List.append_assoc, List.singleton_append] at hown4
            exact RetRl.of_own hown4 k4 (Nat.le_trans hb1.size hs0)
        · rcases A with _ | ⟨b, off, tg⟩
          · have hs0 := hbw.size
            have hlk : (l.take l.length).length = l.length := by simp
            have hld : (l.drop l.length).length = 0 := by simp
            have hO : OwnI 3 (wr.alloc (.cells #[] 3)) wr.heap.size (.slice (some ⟨wr.heap.size, 0, none⟩) 0 0) [] := own_made wr
            have hRk : RdI (wr.alloc (.cells #[] 3)) none (l.take l.length) := ((hR1.below hbw).alloc _).take _
            have hRdrop : RdI w1 none (l.drop l.length) := by rw [List.drop_length]; exact Rd.nil _
            have hba : Below wr.heap.size wr (wr.alloc (.cells #[] 3)) := (Below.refl _ _).alloc (Nat.le_refl _) _
            go_wp2_with (at_builtin; refine Try.appAll hO hRk rfl _ _ rfl rfl (by rw [hlk]; rfl) (by rw [hlk]; simp; omega) (by simp) ?_; clear hO hRk; intro v2 w2 hown2 hb2)
            have hown2' : OwnI 3 w2.drew wr.heap.size v2 (l.take l.length) := by simpa using Own.below hown2 ((Below.refl _ _).drew)
            have kd : Below wr.heap.size wr w2.drew := (hba.trans hb2).drew
            have kds := kd.size
            clear hown2
            go_region_held3 (fun _ => True) (trivial)
              (first
                | (refine Try.stepI hown2' n rfl _ _ rfl rfl rfl (by rw [hlk]; omega) kds ?_; clear hown2'; intro v3 w3 hown3 hb3; have k3 := kd.trans hb3; have k3s := k3.size; have hRd3 := hRdrop.below (hbw.trans (k3.mono hs0)))
                | (refine Try.stepAll hown3 hRd3 rfl _ _ rfl rfl (by rw [hld]; rfl) (by simp; omega) k3s ?_; clear hown3 hRd3; intro v4 w4 hown4 hb4))
            go_wp2
            go_ret
            rw [hfin]
            have k4 := hb1.trans ((hbw.trans ((k3.trans hb4).mono hs0)).mono hb1.size)
            simp only [List.append_assoc, List.singleton_append] at hown4
            exact RetRl.of_own hown4 k4 (Nat.le_trans hb1.size hs0)
          · have hs0 := hbw.size
            have hlk : (l.take l.length).length = l.length := by simp
            have hld : (l.drop l.length).length = 0 := by simp
            have hO : OwnI 3 (wr.alloc (.cells #[] 3)) wr.heap.size (.slice (some ⟨wr.heap.size, 0, none⟩) 0 0) [] := own_made wr
            have hRk : RdI (wr.alloc (.cells #[] 3)) (some ⟨b, off, tg⟩) (l.take l.length) := ((hR1.below hbw).alloc _).take _
            have hRdrop : RdI w1 (some ((⟨b, off, tg⟩ : Addr).add l.length)) (l.drop l.length) := by rw [List.drop_length]; exact Rd.nil _
            have hba : Below wr.heap.size wr (wr.alloc (.cells #[] 3)) := (Below.refl _ _).alloc (Nat.le_refl _) _
            go_wp2_with (at_builtin; refine Try.appAll hO hRk rfl _ _ rfl rfl (by rw [hlk]; rfl) (by rw [hlk]; simp; omega) (by simp) ?_; clear hO hRk; intro v2 w2 hown2 hb2)
            have hown2' : OwnI 3 w2.drew wr.heap.size v2 (l.take l.length) := by simpa using Own.below hown2 ((Below.refl _ _).drew)
            have kd : Below wr.heap.size wr w2.drew := (hba.trans hb2).drew
            have kds := kd.size
            clear hown2
            go_region_held3 (fun _ => True) (trivial)
              (first
                | (refine Try.stepI hown2' n rfl _ _ rfl rfl rfl (by rw [hlk]; omega) kds ?_; clear hown2'; intro v3 w3 hown3 hb3; have k3 := kd.trans hb3; have k3s := k3.size; have hRd3 := hRdrop.below (hbw.trans (k3.mono hs0)))
                | (refine Try.stepAll hown3 hRd3 rfl _ _ rfl rfl (by rw [hld]; rfl) (by simp; omega) k3s ?_; clear hown3 hRd3; intro v4 w4 hown4 hb4))
            go_wp2
            go_ret
            rw [hfin]
            have k4 := hb1.trans ((hbw.trans ((k3.trans hb4).mono hs0)).mono hb1.size)
            simp only [List.append_assoc, List.singleton_append] at hown4
            exact RetRl.of_own hown4 k4 (Nat.le_trans hb1.size hs0)

set_option maxHeartbeats 1000000 in
theorem ref_normal_l (A : Option Addr) (c : Nat) (l : List Int) (w : World) (hmax : l.length ≤ 100000000) (hR : RdI w A l) :
    Calls Try.prog 30 #[.slice A l.length c] w (RetRl w none (putL [] l)) := by
  have hb0 : Below w.heap.size w (w.alloc (.cells #[] 3)) := (Below.refl _ _).alloc (Nat.le_refl _) _
  have hN0 : SlI (w.alloc (.cells #[] 3)) (.slice (some ⟨w.heap.size, 0, none⟩) 0 0) [] := ⟨_, 0, rfl, Nat.le_refl _, Rd.nil _⟩
  go_enter Try.func30, Try.ntmps30
  go_wp2_with fail
  go_loopw [3, 4] (fun v i wr => ∃ k : Nat, k ≤ l.length ∧ i = .int .i64 k ∧ SlI wr v (putL [] (l.take k)) ∧ (∀ j, v.ownBlock = some j → w.heap.size ≤ j) ∧ Below w.heap.size w wr) (fun _ i _ => l.length - (intOf i).toNat)
  case atStart => exact ⟨0, by omega, rfl, hN0, fun j hj => by injection hj with hj; exact Nat.le_of_eq hj, hb0⟩
  case round =>
    obtain ⟨k, hk, rfl, ⟨A', c', rfl, hc', hRo⟩, hlo, hbw⟩ := hrel
    by_cases hlt : k < l.length
    · obtain ⟨b, off, rfl, hb, g1⟩ := RdI.get hR hbw hlt
      have HX := Lib.hid (putL_take (o := []) hlt)
      have hle := putL_len [] (l.take k)
      have hle2 : (l.take k).length ≤ l.length := by simp; omega
      generalize l[k]! = x at *
      generalize putL [] (l.take k) = o at *
      simp only [List.length_nil] at hle
      have cW := ref_with_l A' c' x o wr hc' (by omega) hRo
      have hs := hbw.size
      go_wp2_with fail
      refine cW.mono ?_
      rintro e w1 ⟨v2, rfl, hS2, hb2, hl2⟩
      have hlo2 : ∀ j, v2.ownBlock = some j → w.heap.size ≤ j := fun j hj => by
        rcases hl2 j hj with ⟨a, ha, hj'⟩ | h
        · exact hlo j (by rw [ha]; simp [Value.ownBlock, hj'])
        · omega
      go_wp2
      go_roundw
      case rel => exact ⟨k + 1, by omega, by go_num, by rw [HX.out]; exact hS2, hlo2, hbw.trans (hb2.mono hs)⟩
      case measure => simp [intOf]; omega
    · obtain rfl : k = l.length := by omega
      simp only [List.take_length] at hRo hc' ⊢
      go_wp2
      go_ret
      exact ⟨.slice A' (putL [] l).length c', rfl, ⟨A', c', rfl, hc', hRo⟩, hbw, fun j hj => .inr (hlo j (by rcases A' with _ | a <;> first | (cases hj; done) | exact hj))⟩

theorem k_rnormal_l {w : World} {v : Value} {xs : List Int} (h : SlI w v xs) (h1 : xs.length ≤ 1000000) : Calls Try.prog 30 #[v] w (RetRl w none (setL xs)) := by
  obtain ⟨A, c, rfl, hc, hR⟩ := h
  rw [← put_normal]
  exact ref_normal_l A c xs w (by omega) hR
end Go.Proofs
