import Derived.Test.YtafaojmkbbhjmaaA3
import Derived.Deep.RegionHeld3
import Derived.BigQuiet
import Derived.Deep.DeepMust
import Derived.Deep.QuietTactic
set_option linter.unusedVariables false
set_option linter.unusedSimpArgs false
namespace Go.Proofs
open Go.RowKit Go.Proofs.Mp

def insU (n : Int) : List Int → List Int
  | [] => [n]
  | x :: xs => if n ≤ x then (if n < x then n :: x :: xs else x :: xs) else x :: insU n xs
theorem insU_mem (n x : Int) : ∀ l : List Int, x ∈ insU n l ↔ x = n ∨ x ∈ l
  | [] => by simp [insU]
  | y :: ys => by
    simp only [insU]
    split
    · split
      · simp
      · have : n = y := by omega
        subst this; simp
    · rw [List.mem_cons, insU_mem n x ys, List.mem_cons]
      constructor
      · rintro (h | h | h) <;> simp [h]
      · rintro (h | h | h) <;> simp [h]
theorem insU_asc (n : Int) : ∀ l : List Int, Asc l → Asc (insU n l)
  | [], _ => by simp [insU]
  | y :: ys, h => by
    have h' := List.pairwise_cons.1 h
    simp only [insU]
    split
    · split
      · rename_i h1 h2
        exact List.pairwise_cons.2 ⟨fun z hz => by
          rcases List.mem_cons.1 hz with rfl | hz
          · exact h2
          · exact Int.lt_trans h2 (h'.1 z hz), h⟩
      · exact h
    · rename_i h1
      refine List.pairwise_cons.2 ⟨fun z hz => ?_, insU_asc n ys h'.2⟩
      rcases (insU_mem n z ys).1 hz with rfl | hz
      · omega
      · exact h'.1 z hz
theorem insU_len (n : Int) : ∀ l : List Int, (insU n l).length ≤ l.length + 1
  | [] => by simp [insU]
  | y :: ys => by
    simp only [insU]
    split
    · split <;> simp
    · have := insU_len n ys
      simp; omega
theorem insU_at (n : Int) : ∀ (l : List Int) (k : Nat), k ≤ l.length → (∀ j, j < k → l[j]! < n) → (k < l.length → n < l[k]!) → insU n l = l.take k ++ n :: l.drop k
  | [], k, h, _, _ => by
    obtain rfl : k = 0 := by simpa using h
    rfl
  | x :: xs, 0, _, _, h3 => by
    have : n < x := by simpa using h3 (by simp)
    simp [insU, this, Int.le_of_lt this]
  | x :: xs, k + 1, h1, h2, h3 => by
    have hx : x < n := by simpa using h2 0 (by omega)
    have hn : ¬ n ≤ x := by omega
    simp only [insU, if_neg hn, List.take_succ_cons, List.drop_succ_cons, List.cons_append]
    rw [insU_at n xs k (by simpa using h1) (fun j hj => by simpa using h2 (j + 1) (by omega)) (fun hk => by simpa using h3 (by simpa using hk))]

/-- a set with one more element -/
def withL (l : List Int) (n : Int) : List Int := if n ∈ l then l else insU n l
theorem withL_mem (l : List Int) (n x : Int) : x ∈ withL l n ↔ x = n ∨ x ∈ l := by
  unfold withL
  split
  · rename_i h
    constructor
    · exact .inr
    · rintro (rfl | h') <;> assumption
  · exact insU_mem n x l
theorem withL_asc {l : List Int} (n : Int) (h : Asc l) : Asc (withL l n) := by
  unfold withL
  split
  · exact h
  · exact insU_asc n l h
theorem withL_len (l : List Int) (n : Int) : (withL l n).length ≤ l.length + 1 := by
  unfold withL
  split
  · omega
  · exact insU_len n l

theorem Mp.Rd.take {α : Type} [Inhabited α] {k : Nat} {enc : α → List Value} {w : World} {A : Option Addr} {xs : List α} (h : Rd k enc w A xs) (n : Nat) : Rd k enc w A (xs.take n) := by
  rcases h with rfl | ⟨b, off, rfl, hb, hc⟩
  · exact .inl (by simp)
  · refine .inr ⟨b, off, rfl, hb, fun j hj i u hu => ?_⟩
    have hj' : j < n ∧ j < xs.length := by simpa [List.length_take, Nat.lt_min] using hj
    refine hc j hj'.2 i u ?_
    have e : (xs.take n)[j]! = xs[j]! := by simp [getElem!_def, List.getElem?_take, hj'.1]
    rw [e] at hu
    exact hu

theorem Try.stepI {w : World} {base : Nat} {v : Value} {xs : List Int} {ops : Array Oper} {o : Oper} {a : Act} {K : Act → World → Prop} {Q : Exit → Act → World → Prop} {E : Prop}
    (hown : OwnI 3 w base v xs) (y : Int) (hgd : o.guard = none) (s x : Operand)
    (ho : o.op = .call { callee := .builtin .append, args := #[s, x], argTypes := #[65, 65] }) (hs : a.eval s = v) (hx : a.eval x = .slice (some ⟨w.heap.size, 0, none⟩) 1 1)
    (hN : xs.length + 1 ≤ 1000000000000) (hbase : base ≤ w.heap.size)
    (h : ∀ v' w', OwnI 3 w' base v' (xs ++ [y]) → Below base w w' → K (a.put o.dst v') w') :
    if Region.wanted o (yielded ops a.tmps) = true then Oper.wp Try.prog o a (w.alloc (.cells #[.int .i64 y] 3)) K Q else E := by
  obtain ⟨i0, hi, hz0, hz1, hz2⟩ := Mp.info_parts Try.infoI
  exact Own.step1 65 i0 (.int .i64 0) 8 Try.underlying65 hi hz0 hz1 hz2 rfl (by decide) (by decide) encI_len encI_one hgd s x ho hown hs y hx (by omega) hbase h

theorem Try.stepAll {w : World} {base : Nat} {v : Value} {xs ys : List Int} {ops : Array Oper} {o : Oper} {a : Act} {K : Act → World → Prop} {Q : Exit → Act → World → Prop} {E : Prop}
    (hown : OwnI 3 w base v xs) {A : Option Addr} {c : Nat} (hR : RdI w A ys) (hgd : o.guard = none) (s x : Operand)
    (ho : o.op = .call { callee := .builtin .append, args := #[s, x], argTypes := #[65, 65] }) (hs : a.eval s = v) (hx : a.eval x = .slice A ys.length c)
    (hN : xs.length + ys.length ≤ 1000000000000) (hbase : base ≤ w.heap.size)
    (h : ∀ v' w', OwnI 3 w' base v' (xs ++ ys) → Below base w w' → K (a.put o.dst v') w') :
    if Region.wanted o (yielded ops a.tmps) = true then Oper.wp Try.prog o a w K Q else E := by
  have hw : Region.wanted o (yielded ops a.tmps) = true := by simp [Region.wanted, hgd]
  rw [if_pos hw]
  obtain ⟨i0, hi, hz0, hz1, hz2⟩ := Mp.info_parts Try.infoI
  exact Own.wpAll 65 i0 (.int .i64 0) 8 Try.underlying65 hi hz0 hz1 hz2 rfl (by decide) (by decide) encI_len encI_one s x ho hown hs hR hx (by omega) hbase h

theorem own_made (w : World) : OwnI 3 (w.alloc (.cells #[] 3)) w.heap.size (.slice (some ⟨w.heap.size, 0, none⟩) 0 0) [] := by
  exact World.ownsRow_made w #[] 0 (Nat.le_refl _) (Nat.zero_le _) rfl
theorem rd_drop1 {w : World} {b off : Nat} {xs : List Int} (h : RdI w (some ⟨b, off, none⟩) xs) (n : Nat) : RdI w (some ⟨b, off + n, none⟩) (xs.drop n) := by
  rcases h with rfl | h
  · exact .inl (by simp)
  · have hd := Rd.drop (a := ⟨b, off, none⟩) (k := 1) (enc := Mp.encI) (w := w) (xs := xs) (.inr h)
    by_cases hn : xs = []
    · exact .inl (by simp [hn])
    · have := hd hn n
      have e : (⟨b, off, none⟩ : Addr).add (n * 1) = ⟨b, off + n, none⟩ := by
        unfold Addr.add
        split
        · rename_i h0
          have : n = 0 := by simpa using h0
          simp [this]
        · simp
      rwa [e] at this
theorem RetRc.of_own {w w' : World} {base : Nat} {v : Value} {xs : List Int} (h : OwnI 3 w' base v xs) (hb : Below w.heap.size w w') : RetRc 1 Mp.encI w xs (.returned v) w' := Mp.RetRc.of_own Mp.encI_len h hb

set_option maxHeartbeats 1000000 in
theorem ref_with (A : Option Addr) (c : Nat) (n : Int) (l : List Int) (w : World) (hcap : l.length ≤ c) (hmax : l.length ≤ 1000000000) (hR : RdI w A l) :
    Calls Try.prog 63 #[.slice A l.length c, .int .i64 n] w (RetRc 1 Mp.encI w (withL l n)) := by
  have cH := ref_has A c n l w (by omega) hR
  by_cases hn : n ∈ l
  · have e1 : withL l n = l := by simp [withL, hn]
    rw [decide_eq_true hn] at cH
    rw [e1]
    clear hn e1
    go_enter Try.func63, Try.ntmps63
    go_wp2_with fail
    refine cH.mono ?_
    rintro e w1 ⟨rfl, hb1⟩
    go_wp2
    go_ret
    exact ⟨A, c, rfl, hcap, hR.below hb1, hb1⟩
  · have e1 : withL l n = insU n l := by simp [withL, hn]
    rw [decide_eq_false hn] at cH
    rw [e1]
    have HN := Lib.hid hn
    clear hn e1
    go_enter Try.func63, Try.ntmps63
    go_wp2_with fail
    refine cH.mono ?_
    rintro e w1 ⟨rfl, hb1⟩
    have hR1 := hR.below hb1
    clear hR
    go_wp2_with fail
    go_loopw [5] (fun i wr => ∃ k : Nat, k ≤ l.length ∧ i = .int .i64 k ∧ (∀ j, j < k → l[j]! < n) ∧ Below w1.heap.size w1 wr) (fun i _ => l.length - (intOf i).toNat)
    case atStart => exact ⟨0, by omega, rfl, fun j hj => by omega, Below.refl _ _⟩
    case round =>
      obtain ⟨k, hk, rfl, hpre, hbw⟩ := hrel
      by_cases hkl : k < l.length
      · obtain ⟨b, off, rfl, hb, g1⟩ := RdI.get hR1 hbw hkl
        obtain ⟨x, hx⟩ : ∃ x, l[k]! = x := ⟨_, rfl⟩
        rw [hx] at g1
        have HX := Lib.hid hx
        clear hx
        by_cases hxn : x < n
        · go_wp2
          go_roundw
          case rel => exact ⟨k + 1, by omega, by go_num, fun j hj => by
            rcases Nat.lt_succ_iff_lt_or_eq.1 hj with h2 | rfl
            · exact hpre j h2
            · rw [HX.out]; exact hxn, hbw⟩
          case measure => simp [intOf]; omega
        · have hfin : insU n l = l.take k ++ n :: l.drop k := insU_at n l k hk hpre (fun _ => by
            rw [HX.out]
            have : x ≠ n := by
              rintro rfl
              exact HN.out (by rw [← HX.out]; simp [hkl])
            omega)
          have hck : ¬ c = k := by omega
          have hs0 := hbw.size
          have hlk : (l.take k).length = k := by simp; omega
          have hld : (l.drop k).length = l.length - k := by simp
          have hO : OwnI 3 (wr.alloc (.cells #[] 3)) wr.heap.size (.slice (some ⟨wr.heap.size, 0, none⟩) 0 0) [] := own_made wr
          have hRk : RdI (wr.alloc (.cells #[] 3)) (some ⟨b, off, none⟩) (l.take k) := ((hR1.below hbw).alloc _).take k
          have hRdrop : RdI w1 (some ⟨b, off + k, none⟩) (l.drop k) := rd_drop1 hR1 k
          have hba : Below wr.heap.size wr (wr.alloc (.cells #[] 3)) := (Below.refl _ _).alloc (Nat.le_refl _) _
          go_wp2_with (at_builtin; refine Try.appAll hO hRk rfl _ _ rfl rfl (by rw [hlk]; rfl) (by rw [hlk]; simp; omega) (by simp) ?_; clear hO hRk; intro v2 w2 hown2 hb2)
          have hown2' : OwnI 3 w2.drew wr.heap.size v2 (l.take k) := by simpa using Own.below hown2 ((Below.refl _ _).drew)
          have kd : Below wr.heap.size wr w2.drew := (hba.trans hb2).drew
          have kds := kd.size
          clear hown2
          go_region_held3 (fun _ => True) (trivial)
            (first
              | (refine Try.stepI hown2' n rfl _ _ rfl rfl rfl (by rw [hlk]; omega) kds ?_; clear hown2'; intro v3 w3 hown3 hb3; have k3 := kd.trans hb3; have k3s := k3.size; have hRd3 := hRdrop.below (hbw.trans (k3.mono hs0)))
              | (refine Try.stepAll hown3 hRd3 rfl _ _ rfl rfl (by rw [hld]; rfl) (by simp; omega) k3s ?_; clear hown3 hRd3; intro v4 w4 hown4 hb4))
          go_wp2
          go_ret
          rw [hfin]
          have k4 := hb1.trans ((hbw.trans ((k3.trans hb4).mono hs0)).mono hb1.size)
          simp only [List.append_assoc, List.singleton_append] at hown4
          exact RetRc.of_own hown4 k4
      · have hfin : insU n l = l.take k ++ n :: l.drop k := insU_at n l k hk hpre (fun h => absurd h hkl)
        obtain rfl : k = l.length := by omega
        clear hkl hk
        by_cases hck : c = l.length
        · rcases A with _ | ⟨b, off, tg⟩
          · have hs0 := hbw.size
            have hlk : (l.take l.length).length = l.length := by simp
            have hld : (l.drop l.length).length = 0 := by simp
            have hO : OwnI 3 (wr.alloc (.cells #[] 3)) wr.heap.size (.slice (some ⟨wr.heap.size, 0, none⟩) 0 0) [] := own_made wr
            have hRk : RdI (wr.alloc (.cells #[] 3)) none (l.take l.length) := ((hR1.below hbw).alloc _).take _
            have hRdrop : RdI w1 none (l.drop l.length) := by rw [List.drop_length]; exact Rd.nil _
            have hba : Below wr.heap.size wr (wr.alloc (.cells #[] 3)) := (Below.refl _ _).alloc (Nat.le_refl _) _
            go_wp2_with (at_builtin; refine Try.appAll hO hRk rfl _ _ rfl rfl (by rw [hlk]; rfl) (by rw [hlk]; simp; omega) (by simp) ?_; clear hO hRk; intro v2 w2 hown2 hb2)
            have hown2' : OwnI 3 w2.drew wr.heap.size v2 (l.take l.length) := by simpa using Own.below hown2 ((Below.refl _ _).drew)
            have kd : Below wr.heap.size wr w2.drew := (hba.trans hb2).drew
            have kds := kd.size
            clear hown2
            go_region_held3 (fun _ => True) (trivial)
              (first
                | (refine Try.stepI hown2' n rfl _ _ rfl rfl rfl (by rw [hlk]; omega) kds ?_; clear hown2'; intro v3 w3 hown3 hb3; have k3 := kd.trans hb3; have k3s := k3.size; have hRd3 := hRdrop.below (hbw.trans (k3.mono hs0)))
                | (refine Try.stepAll hown3 hRd3 rfl _ _ rfl rfl (by rw [hld]; rfl) (by simp; omega) k3s ?_; clear hown3 hRd3; intro v4 w4 hown4 hb4))
            go_wp2
            go_ret
            rw [hfin]
            have k4 := hb1.trans ((hbw.trans ((k3.trans hb4).mono hs0)).mono hb1.size)
            simp only [List.append_assoc, List.singleton_append] at hown4
            exact RetRc.of_own hown4 k4
          · have hs0 := hbw.size
            have hlk : (l.take l.length).length = l.length := by simp
            have hld : (l.drop l.length).length = 0 := by simp
            have hO : OwnI 3 (wr.alloc (.cells #[] 3)) wr.heap.size (.slice (some ⟨wr.heap.size, 0, none⟩) 0 0) [] := own_made wr
            have hRk : RdI (wr.alloc (.cells #[] 3)) (some ⟨b, off, tg⟩) (l.take l.length) := ((hR1.below hbw).alloc _).take _
            have hRdrop : RdI w1 (some ⟨b, off, tg⟩) (l.drop l.length) := by rw [List.drop_length]; exact Rd.nil _
            have hba : Below wr.heap.size wr (wr.alloc (.cells #[] 3)) := (Below.refl _ _).alloc (Nat.le_refl _) _
            go_wp2_with (at_builtin; refine Try.appAll hO hRk rfl _ _ rfl rfl (by rw [hlk]; rfl) (by rw [hlk]; simp; omega) (by simp) ?_; clear hO hRk; intro v2 w2 hown2 hb2)
            have hown2' : OwnI 3 w2.drew wr.heap.size v2 (l.take l.length) := by simpa using Own.below hown2 ((Below.refl _ _).drew)
            have kd : Below wr.heap.size wr w2.drew := (hba.trans hb2).drew
            have kds := kd.size
            clear hown2
            go_region_held3 (fun _ => True) (trivial)
              (first
                | (refine Try.stepI hown2' n rfl _ _ rfl rfl rfl (by rw [hlk]; omega) kds ?_; clear hown2'; intro v3 w3 hown3 hb3; have k3 := kd.trans hb3; have k3s := k3.size; have hRd3 := hRdrop.below (hbw.trans (k3.mono hs0)))
                | (refine Try.stepAll hown3 hRd3 rfl _ _ rfl rfl (by rw [hld]; rfl) (by simp; omega) k3s ?_; clear hown3 hRd3; intro v4 w4 hown4 hb4))
            go_wp2
            go_ret
            rw [hfin]
            have k4 := hb1.trans ((hbw.trans ((k3.trans hb4).mono hs0)).mono hb1.size)
            simp only [List.append_assoc, List.singleton_append] at hown4
            exact RetRc.of_own hown4 k4
        · rcases A with _ | ⟨b, off, tg⟩
          · have hs0 := hbw.size
            have hlk : (l.take l.length).length = l.length := by simp
            have hld : (l.drop l.length).length = 0 := by simp
            have hO : OwnI 3 (wr.alloc (.cells #[] 3)) wr.heap.size (.slice (some ⟨wr.heap.size, 0, none⟩) 0 0) [] := own_made wr
            have hRk : RdI (wr.alloc (.cells #[] 3)) none (l.take l.length) := ((hR1.below hbw).alloc _).take _
            have hRdrop : RdI w1 none (l.drop l.length) := by rw [List.drop_length]; exact Rd.nil _
            have hba : Below wr.heap.size wr (wr.alloc (.cells #[] 3)) := (Below.refl _ _).alloc (Nat.le_refl _) _
            go_wp2_with (at_builtin; refine Try.appAll hO hRk rfl _ _ rfl rfl (by rw [hlk]; rfl) (by rw [hlk]; simp; omega) (by simp) ?_; clear hO hRk; intro v2 w2 hown2 hb2)
            have hown2' : OwnI 3 w2.drew wr.heap.size v2 (l.take l.length) := by simpa using Own.below hown2 ((Below.refl _ _).drew)
            have kd : Below wr.heap.size wr w2.drew := (hba.trans hb2).drew
            have kds := kd.size
            clear hown2
            go_region_held3 (fun _ => True) (trivial)
              (first
                | (refine Try.stepI hown2' n rfl _ _ rfl rfl rfl (by rw [hlk]; omega) kds ?_; clear hown2'; intro v3 w3 hown3 hb3; have k3 := kd.trans hb3; have k3s := k3.size; have hRd3 := hRdrop.below (hbw.trans (k3.mono hs0)))
                | (refine Try.stepAll hown3 hRd3 rfl _ _ rfl rfl (by rw [hld]; rfl) (by simp; omega) k3s ?_; clear hown3 hRd3; intro v4 w4 hown4 hb4))
            go_wp2
            go_ret
            rw [hfin]
            have k4 := hb1.trans ((hbw.trans ((k3.trans hb4).mono hs0)).mono hb1.size)
            simp only [List.append_assoc, List.singleton_append] at hown4
            exact RetRc.of_own hown4 k4
          · have hs0 := hbw.size
            have hlk : (l.take l.length).length = l.length := by simp
            have hld : (l.drop l.length).length = 0 := by simp
            have hO : OwnI 3 (wr.alloc (.cells #[] 3)) wr.heap.size (.slice (some ⟨wr.heap.size, 0, none⟩) 0 0) [] := own_made wr
            have hRk : RdI (wr.alloc (.cells #[] 3)) (some ⟨b, off, tg⟩) (l.take l.length) := ((hR1.below hbw).alloc _).take _
            have hRdrop : RdI w1 (some ((⟨b, off, tg⟩ : Addr).add l.length)) (l.drop l.length) := by rw [List.drop_length]; exact Rd.nil _
            have hba : Below wr.heap.size wr (wr.alloc (.cells #[] 3)) := (Below.refl _ _).alloc (Nat.le_refl _) _
            go_wp2_with (at_builtin; refine Try.appAll hO hRk rfl _ _ rfl rfl (by rw [hlk]; rfl) (by rw [hlk]; simp; omega) (by simp) ?_; clear hO hRk; intro v2 w2 hown2 hb2)
            have hown2' : OwnI 3 w2.drew wr.heap.size v2 (l.take l.length) := by simpa using Own.below hown2 ((Below.refl _ _).drew)
            have kd : Below wr.heap.size wr w2.drew := (hba.trans hb2).drew
            have kds := kd.size
            clear hown2
            go_region_held3 (fun _ => True) (trivial)
              (first
                | (refine Try.stepI hown2' n rfl _ _ rfl rfl rfl (by rw [hlk]; omega) kds ?_; clear hown2'; intro v3 w3 hown3 hb3; have k3 := kd.trans hb3; have k3s := k3.size; have hRd3 := hRdrop.below (hbw.trans (k3.mono hs0)))
                | (refine Try.stepAll hown3 hRd3 rfl _ _ rfl rfl (by rw [hld]; rfl) (by simp; omega) k3s ?_; clear hown3 hRd3; intro v4 w4 hown4 hb4))
            go_wp2
            go_ret
            rw [hfin]
            have k4 := hb1.trans ((hbw.trans ((k3.trans hb4).mono hs0)).mono hb1.size)
            simp only [List.append_assoc, List.singleton_append] at hown4
            exact RetRc.of_own hown4 k4
end Go.Proofs
