/- Lemmas and walks; no statement of a law is proved here. -/
import Derived.Test.YtaaejdhdkipdlaaXJ1
import Derived.Deep.RegionHeld3
import Derived.BigQuiet
import Derived.Deep.DeepMust
import Derived.Deep.QuietTactic
import Derived.WalkKit
import Derived.Maps.Own
import Derived.Maps.OwnOps
import Derived.Maps.OwnSet
import Derived.Maps.Views
import Derived.Maps.AppendAt
import Derived.Laws.OwnMore
set_option linter.unusedVariables false
set_option linter.unusedSimpArgs false
namespace Go.Proofs
open Go.RowKit Go.Proofs.Mp

def insU (n : Int) : List Int → List Int
  | [] => [n]
  | x :: xs => if n ≤ x then (if n < x then n :: x :: xs else x :: xs) else x :: insU n xs
theorem insU_mem (n x : Int) : ∀ l : List Int, x ∈ insU n l ↔ x = n ∨ x ∈ l
  | [] => by simp [insU]
  | y :: ys => by
    simp only [insU]
    split
    · split
      · simp
      · have : n = y := by omega
        subst this; simp
    · rw [List.mem_cons, insU_mem n x ys, List.mem_cons]
      constructor
      · rintro (h | h | h) <;> simp [h]
      · rintro (h | h | h) <;> simp [h]
theorem insU_asc (n : Int) : ∀ l : List Int, Asc l → Asc (insU n l)
  | [], _ => by simp [insU]
  | y :: ys, h => by
    have h' := List.pairwise_cons.1 h
    simp only [insU]
    split
    · split
      · rename_i h1 h2
        exact List.pairwise_cons.2 ⟨fun z hz => by
          rcases List.mem_cons.1 hz with rfl | hz
          · exact h2
          · exact Int.lt_trans h2 (h'.1 z hz), h⟩
      · exact h
    · rename_i h1
      refine List.pairwise_cons.2 ⟨fun z hz => ?_, insU_asc n ys h'.2⟩
      rcases (insU_mem n z ys).1 hz with rfl | hz
      · omega
      · exact h'.1 z hz
theorem insU_len (n : Int) : ∀ l : List Int, (insU n l).length ≤ l.length + 1
  | [] => by simp [insU]
  | y :: ys => by
    simp only [insU]
    split
    · split <;> simp
    · have := insU_len n ys
      simp; omega
theorem insU_at (n : Int) : ∀ (l : List Int) (k : Nat), k ≤ l.length → (∀ j, j < k → l[j]! < n) → (k < l.length → n < l[k]!) → insU n l = l.take k ++ n :: l.drop k
  | [], k, h, _, _ => by
    obtain rfl : k = 0 := by simpa using h
    rfl
  | x :: xs, 0, _, _, h3 => by
    have : n < x := by simpa using h3 (by simp)
    simp [insU, this, Int.le_of_lt this]
  | x :: xs, k + 1, h1, h2, h3 => by
    have hx : x < n := by simpa using h2 0 (by omega)
    have hn : ¬ n ≤ x := by omega
    simp only [insU, if_neg hn, List.take_succ_cons, List.drop_succ_cons, List.cons_append]
    rw [insU_at n xs k (by simpa using h1) (fun j hj => by simpa using h2 (j + 1) (by omega)) (fun hk => by simpa using h3 (by simpa using hk))]

/-- a set with one more element -/
def withL (l : List Int) (n : Int) : List Int := if n ∈ l then l else insU n l
theorem withL_mem (l : List Int) (n x : Int) : x ∈ withL l n ↔ x = n ∨ x ∈ l := by
  unfold withL
  split
  · rename_i h
    constructor
    · exact .inr
    · rintro (rfl | h') <;> assumption
  · exact insU_mem n x l
theorem withL_asc {l : List Int} (n : Int) (h : Asc l) : Asc (withL l n) := by
  unfold withL
  split
  · exact h
  · exact insU_asc n l h
theorem withL_len (l : List Int) (n : Int) : (withL l n).length ≤ l.length + 1 := by
  unfold withL
  split
  · omega
  · exact insU_len n l

theorem Mp.Rd.take {α : Type} [Inhabited α] {k : Nat} {enc : α → List Value} {w : World} {A : Option Addr} {xs : List α} (h : Rd k enc w A xs) (n : Nat) : Rd k enc w A (xs.take n) := by
  rcases h with rfl | ⟨b, off, rfl, hb, hc⟩
  · exact .inl (by simp)
  · refine .inr ⟨b, off, rfl, hb, fun j hj i u hu => ?_⟩
    have hj' : j < n ∧ j < xs.length := by simpa [List.length_take, Nat.lt_min] using hj
    refine hc j hj'.2 i u ?_
    have e : (xs.take n)[j]! = xs[j]! := by simp [getElem!_def, List.getElem?_take, hj'.1]
    rw [e] at hu
    exact hu

theorem Try.stepI {w : World} {base : Nat} {v : Value} {xs : List Int} {ops : Array Oper} {o : Oper} {a : Act} {K : Act → World → Prop} {Q : Exit → Act → World → Prop} {E : Prop}
    (hown : OwnI 3 w base v xs) (y : Int) (hgd : o.guard = none) (s x : Operand)
    (ho : o.op = .call { callee := .builtin .append, args := #[s, x], argTypes := #[23, 23] }) (hs : a.eval s = v) (hx : a.eval x = .slice (some ⟨w.heap.size, 0, none⟩) 1 1)
    (hN : xs.length + 1 ≤ 1000000000000) (hbase : base ≤ w.heap.size)
    (h : ∀ v' w', OwnI 3 w' base v' (xs ++ [y]) → Below base w w' → K (a.put o.dst v') w') :
    if Region.wanted o (yielded ops a.tmps) = true then Oper.wp Try.prog o a (w.alloc (.cells #[.int .i64 y] 3)) K Q else E := by
  obtain ⟨i0, hi, hz0, hz1, hz2⟩ := Mp.info_parts Try.infoI
  exact Own.step1 23 i0 (.int .i64 0) 8 Try.underlying23 hi hz0 hz1 hz2 rfl (by decide) (by decide) encI_len encI_one hgd s x ho hown hs y hx (by omega) hbase h

theorem Try.stepAll {w : World} {base : Nat} {v : Value} {xs ys : List Int} {ops : Array Oper} {o : Oper} {a : Act} {K : Act → World → Prop} {Q : Exit → Act → World → Prop} {E : Prop}
    (hown : OwnI 3 w base v xs) {A : Option Addr} {c : Nat} (hR : RdI w A ys) (hgd : o.guard = none) (s x : Operand)
    (ho : o.op = .call { callee := .builtin .append, args := #[s, x], argTypes := #[23, 23] }) (hs : a.eval s = v) (hx : a.eval x = .slice A ys.length c)
    (hN : xs.length + ys.length ≤ 1000000000000) (hbase : base ≤ w.heap.size)
    (h : ∀ v' w', OwnI 3 w' base v' (xs ++ ys) → Below base w w' → K (a.put o.dst v') w') :
    if Region.wanted o (yielded ops a.tmps) = true then Oper.wp Try.prog o a w K Q else E := by
  have hw : Region.wanted o (yielded ops a.tmps) = true := by simp [Region.wanted, hgd]
  rw [if_pos hw]
  obtain ⟨i0, hi, hz0, hz1, hz2⟩ := Mp.info_parts Try.infoI
  exact Own.wpAll 23 i0 (.int .i64 0) 8 Try.underlying23 hi hz0 hz1 hz2 rfl (by decide) (by decide) encI_len encI_one s x ho hown hs hR hx (by omega) hbase h

theorem own_made (w : World) : OwnI 3 (w.alloc (.cells #[] 3)) w.heap.size (.slice (some ⟨w.heap.size, 0, none⟩) 0 0) [] := by
  exact World.ownsRow_made w #[] 0 (Nat.le_refl _) (Nat.zero_le _) rfl
theorem rd_drop1 {w : World} {b off : Nat} {xs : List Int} (h : RdI w (some ⟨b, off, none⟩) xs) (n : Nat) : RdI w (some ⟨b, off + n, none⟩) (xs.drop n) := by
  rcases h with rfl | h
  · exact .inl (by simp)
  · have hd := Rd.drop (a := ⟨b, off, none⟩) (k := 1) (enc := Mp.encI) (w := w) (xs := xs) (.inr h)
    by_cases hn : xs = []
    · exact .inl (by simp [hn])
    · have := hd hn n
      have e : (⟨b, off, none⟩ : Addr).add (n * 1) = ⟨b, off + n, none⟩ := by
        unfold Addr.add
        split
        · rename_i h0
          have : n = 0 := by simpa using h0
          simp [this]
        · simp
      rwa [e] at this
theorem RetRc.of_own {w w' : World} {base : Nat} {v : Value} {xs : List Int} (h : OwnI 3 w' base v xs) (hb : Below w.heap.size w w') : RetRc 1 Mp.encI w xs (.returned v) w' :=
  HeldI.ret (own_held h) hb

set_option maxHeartbeats 1000000 in
theorem ref_with (A : Option Addr) (c : Nat) (n : Int) (l : List Int) (w : World) (hcap : l.length ≤ c) (hmax : l.length ≤ 1000000000) (hR : RdI w A l) :
    Calls Try.prog 56 #[.slice A l.length c, .int .i64 n] w (RetRc 1 Mp.encI w (withL l n)) := by
  have cH := ref_has A c n l w (by omega) hR
  by_cases hn : n ∈ l
  · have e1 : withL l n = l := by simp [withL, hn]
    rw [decide_eq_true hn] at cH
    rw [e1]
    clear hn e1
    go_enter Try.func56, Try.ntmps56
    go_wp2_with fail
    refine cH.mono ?_
    rintro e w1 ⟨rfl, hb1⟩
    go_wp2
    go_ret
    exact ⟨A, c, rfl, hcap, hR.below hb1, hb1⟩
  · have e1 : withL l n = insU n l := by simp [withL, hn]
    rw [decide_eq_false hn] at cH
    rw [e1]
    have HN := Lib.hid hn
    clear hn e1
    go_enter Try.func56, Try.ntmps56
    go_wp2_with fail
    refine cH.mono ?_
    rintro e w1 ⟨rfl, hb1⟩
    have hR1 := hR.below hb1
    clear hR
    go_wp2_with fail
    go_loopw [5] (fun i wr => ∃ k : Nat, k ≤ l.length ∧ i = .int .i64 k ∧ (∀ j, j < k → l[j]! < n) ∧ Below w1.heap.size w1 wr) (fun i _ => l.length - (intOf i).toNat)
    case atStart => exact ⟨0, by omega, rfl, fun j hj => by omega, Below.refl _ _⟩
    case round =>
      obtain ⟨k, hk, rfl, hpre, hbw⟩ := hrel
      by_cases hkl : k < l.length
      · obtain ⟨b, off, rfl, hb, g1⟩ := RdI.get hR1 hbw hkl
        obtain ⟨x, hx⟩ : ∃ x, l[k]! = x := ⟨_, rfl⟩
        rw [hx] at g1
        have HX := Lib.hid hx
        clear hx
        by_cases hxn : x < n
        · go_wp2
          go_roundw
          case rel => exact ⟨k + 1, by omega, by go_num, fun j hj => by
            rcases Nat.lt_succ_iff_lt_or_eq.1 hj with h2 | rfl
            · exact hpre j h2
            · rw [HX.out]; exact hxn, hbw⟩
          case measure => simp [intOf]; omega
        · have hfin : insU n l = l.take k ++ n :: l.drop k := insU_at n l k hk hpre (fun _ => by
            rw [HX.out]
            have : x ≠ n := by
              rintro rfl
              exact HN.out (by rw [← HX.out]; simp [hkl])
            omega)
          have hck : ¬ c = k := by omega
          have hs0 := hbw.size
          have hlk : (l.take k).length = k := by simp; omega
          have hld : (l.drop k).length = l.length - k := by simp
          have hO : OwnI 3 (wr.alloc (.cells #[] 3)) wr.heap.size (.slice (some ⟨wr.heap.size, 0, none⟩) 0 0) [] := own_made wr
          have hRk : RdI (wr.alloc (.cells #[] 3)) (some ⟨b, off, none⟩) (l.take k) := ((hR1.below hbw).alloc _).take k
          have hRdrop : RdI w1 (some ⟨b, off + k, none⟩) (l.drop k) := rd_drop1 hR1 k
          have hba : Below wr.heap.size wr (wr.alloc (.cells #[] 3)) := (Below.refl _ _).alloc (Nat.le_refl _) _
          go_wp2_with (at_builtin; refine Try.appAll hO hRk rfl _ _ rfl rfl (by rw [hlk]; rfl) (by rw [hlk]; simp; omega) (by simp) ?_; clear hO hRk; intro v2 w2 hown2 hb2)
          have hown2' : OwnI 3 w2.drew wr.heap.size v2 (l.take k) := by simpa using Own.below hown2 ((Below.refl _ _).drew)
          have kd : Below wr.heap.size wr w2.drew := (hba.trans hb2).drew
          have kds := kd.size
          clear hown2
          go_region_held3 (fun _ => True) (trivial)
            (first
              | (refine Try.stepI hown2' n rfl _ _ rfl rfl rfl (by rw [hlk]; omega) kds ?_; clear hown2'; intro v3 w3 hown3 hb3; have k3 := kd.trans hb3; have k3s := k3.size; have hRd3 := hRdrop.below (hbw.trans (k3.mono hs0)))
              | (refine Try.stepAll hown3 hRd3 rfl _ _ rfl rfl (by rw [hld]; rfl) (by simp; omega) k3s ?_; clear hown3 hRd3; intro v4 w4 hown4 hb4))
          go_wp2
          go_ret
          rw [hfin]
          have k4 := hb1.trans ((hbw.trans ((k3.trans hb4).mono hs0)).mono hb1.size)
          simp only [List.append_assoc, List.singleton_append] at hown4
          exact RetRc.of_own hown4 k4
      · have hfin : insU n l = l.take k ++ n :: l.drop k := insU_at n l k hk hpre (fun h => absurd h hkl)
        obtain rfl : k = l.length := by omega
        clear hkl hk
        by_cases hck : c = l.length
        · rcases A with _ | ⟨b, off, tg⟩
          · have hs0 := hbw.size
            have hlk : (l.take l.length).length = l.length := by simp
            have hld : (l.drop l.length).length = 0 := by simp
            have hO : OwnI 3 (wr.alloc (.cells #[] 3)) wr.heap.size (.slice (some ⟨wr.heap.size, 0, none⟩) 0 0) [] := own_made wr
            have hRk : RdI (wr.alloc (.cells #[] 3)) none (l.take l.length) := ((hR1.below hbw).alloc _).take _
            have hRdrop : RdI w1 none (l.drop l.length) := by rw [List.drop_length]; exact Rd.nil _
            have hba : Below wr.heap.size wr (wr.alloc (.cells #[] 3)) := (Below.refl _ _).alloc (Nat.le_refl _) _
            go_wp2_with (at_builtin; refine Try.appAll hO hRk rfl _ _ rfl rfl (by rw [hlk]; rfl) (by rw [hlk]; simp; omega) (by simp) ?_; clear hO hRk; intro v2 w2 hown2 hb2)
            have hown2' : OwnI 3 w2.drew wr.heap.size v2 (l.take l.length) := by simpa using Own.below hown2 ((Below.refl _ _).drew)
            have kd : Below wr.heap.size wr w2.drew := (hba.trans hb2).drew
            have kds := kd.size
            clear hown2
            go_region_held3 (fun _ => True) (trivial)
              (first
                | (refine Try.stepI hown2' n rfl _ _ rfl rfl rfl (by rw [hlk]; omega) kds ?_; clear hown2'; intro v3 w3 hown3 hb3; have k3 := kd.trans hb3; have k3s := k3.size; have hRd3 := hRdrop.below (hbw.trans (k3.mono hs0)))
                | (refine Try.stepAll hown3 hRd3 rfl _ _ rfl rfl (by rw [hld]; rfl) (by simp; omega) k3s ?_; clear hown3 hRd3; intro v4 w4 hown4 hb4))
            go_wp2
            go_ret
            rw [hfin]
            have k4 := hb1.trans ((hbw.trans ((k3.trans hb4).mono hs0)).mono hb1.size)
            simp only [List.append_assoc, List.singleton_append] at hown4
            exact RetRc.of_own hown4 k4
          · have hs0 := hbw.size
            have hlk : (l.take l.length).length = l.length := by simp
            have hld : (l.drop l.length).length = 0 := by simp
            have hO : OwnI 3 (wr.alloc (.cells #[] 3)) wr.heap.size (.slice (some ⟨wr.heap.size, 0, none⟩) 0 0) [] := own_made wr
            have hRk : RdI (wr.alloc (.cells #[] 3)) (some ⟨b, off, tg⟩) (l.take l.length) := ((hR1.below hbw).alloc _).take _
            have hRdrop : RdI w1 (some ⟨b, off, tg⟩) (l.drop l.length) := by rw [List.drop_length]; exact Rd.nil _
            have hba : Below wr.heap.size wr (wr.alloc (.cells #[] 3)) := (Below.refl _ _).alloc (Nat.le_refl _) _
            go_wp2_with (at_builtin; refine Try.appAll hO hRk rfl _ _ rfl rfl (by rw [hlk]; rfl) (by rw [hlk]; simp; omega) (by simp) ?_; clear hO hRk; intro v2 w2 hown2 hb2)
            have hown2' : OwnI 3 w2.drew wr.heap.size v2 (l.take l.length) := by simpa using Own.below hown2 ((Below.refl _ _).drew)
            have kd : Below wr.heap.size wr w2.drew := (hba.trans hb2).drew
            have kds := kd.size
            clear hown2
            go_region_held3 (fun _ => True) (trivial)
              (first
                | (refine Try.stepI hown2' n rfl _ _ rfl rfl rfl (by rw [hlk]; omega) kds ?_; clear hown2'; intro v3 w3 hown3 hb3; have k3 := kd.trans hb3; have k3s := k3.size; have hRd3 := hRdrop.below (hbw.trans (k3.mono hs0)))
                | (refine Try.stepAll hown3 hRd3 rfl _ _ rfl rfl (by rw [hld]; rfl) (by simp; omega) k3s ?_; clear hown3 hRd3; intro v4 w4 hown4 hb4))
            go_wp2
            go_ret
            rw [hfin]
            have k4 := hb1.trans ((hbw.trans ((k3.trans hb4).mono hs0)).mono hb1.size)
            simp only [List.append_assoc, List.singleton_append] at hown4
            exact RetRc.of_own hown4 k4
        · rcases A with _ | ⟨b, off, tg⟩
          · have hs0 := hbw.size
            have hlk : (l.take l.length).length = l.length := by simp
            have hld : (l.drop l.length).length = 0 := by simp
            have hO : OwnI 3 (wr.alloc (.cells #[] 3)) wr.heap.size (.slice (some ⟨wr.heap.size, 0, none⟩) 0 0) [] := own_made wr
            have hRk : RdI (wr.alloc (.cells #[] 3)) none (l.take l.length) := ((hR1.below hbw).alloc _).take _
            have hRdrop : RdI w1 none (l.drop l.length) := by rw [List.drop_length]; exact Rd.nil _
            have hba : Below wr.heap.size wr (wr.alloc (.cells #[] 3)) := (Below.refl _ _).alloc (Nat.le_refl _) _
            go_wp2_with (at_builtin; refine Try.appAll hO hRk rfl _ _ rfl rfl (by rw [hlk]; rfl) (by rw [hlk]; simp; omega) (by simp) ?_; clear hO hRk; intro v2 w2 hown2 hb2)
            have hown2' : OwnI 3 w2.drew wr.heap.size v2 (l.take l.length) := by simpa using Own.below hown2 ((Below.refl _ _).drew)
            have kd : Below wr.heap.size wr w2.drew := (hba.trans hb2).drew
            have kds := kd.size
            clear hown2
            go_region_held3 (fun _ => True) (trivial)
              (first
                | (refine Try.stepI hown2' n rfl _ _ rfl rfl rfl (by rw [hlk]; omega) kds ?_; clear hown2'; intro v3 w3 hown3 hb3; have k3 := kd.trans hb3; have k3s := k3.size; have hRd3 := hRdrop.below (hbw.trans (k3.mono hs0)))
                | (refine Try.stepAll hown3 hRd3 rfl _ _ rfl rfl (by rw [hld]; rfl) (by simp; omega) k3s ?_; clear hown3 hRd3; intro v4 w4 hown4 hb4))
            go_wp2
            go_ret
            rw [hfin]
            have k4 := hb1.trans ((hbw.trans ((k3.trans hb4).mono hs0)).mono hb1.size)
            simp only [List.append_assoc, List.singleton_append] at hown4
            exact RetRc.of_own hown4 k4
          · have hs0 := hbw.size
            have hlk : (l.take l.length).length = l.length := by simp
            have hld : (l.drop l.length).length = 0 := by simp
            have hO : OwnI 3 (wr.alloc (.cells #[] 3)) wr.heap.size (.slice (some ⟨wr.heap.size, 0, none⟩) 0 0) [] := own_made wr
            have hRk : RdI (wr.alloc (.cells #[] 3)) (some ⟨b, off, tg⟩) (l.take l.length) := ((hR1.below hbw).alloc _).take _
            have hRdrop : RdI w1 (some ((⟨b, off, tg⟩ : Addr).add l.length)) (l.drop l.length) := by rw [List.drop_length]; exact Rd.nil _
            have hba : Below wr.heap.size wr (wr.alloc (.cells #[] 3)) := (Below.refl _ _).alloc (Nat.le_refl _) _
            go_wp2_with (at_builtin; refine Try.appAll hO hRk rfl _ _ rfl rfl (by rw [hlk]; rfl) (by rw [hlk]; simp; omega) (by simp) ?_; clear hO hRk; intro v2 w2 hown2 hb2)
            have hown2' : OwnI 3 w2.drew wr.heap.size v2 (l.take l.length) := by simpa using Own.below hown2 ((Below.refl _ _).drew)
            have kd : Below wr.heap.size wr w2.drew := (hba.trans hb2).drew
            have kds := kd.size
            clear hown2
            go_region_held3 (fun _ => True) (trivial)
              (first
                | (refine Try.stepI hown2' n rfl _ _ rfl rfl rfl (by rw [hlk]; omega) kds ?_; clear hown2'; intro v3 w3 hown3 hb3; have k3 := kd.trans hb3; have k3s := k3.size; have hRd3 := hRdrop.below (hbw.trans (k3.mono hs0)))
                | (refine Try.stepAll hown3 hRd3 rfl _ _ rfl rfl (by rw [hld]; rfl) (by simp; omega) k3s ?_; clear hown3 hRd3; intro v4 w4 hown4 hb4))
            go_wp2
            go_ret
            rw [hfin]
            have k4 := hb1.trans ((hbw.trans ((k3.trans hb4).mono hs0)).mono hb1.size)
            simp only [List.append_assoc, List.singleton_append] at hown4
            exact RetRc.of_own hown4 k4
end Go.Proofs
set_option linter.unusedVariables false
set_option linter.unusedSimpArgs false
namespace Go.Proofs
open Go.RowKit Go.Proofs.Mp

/-- the elements xs put into the set o, one after the other -/
def putL (o xs : List Int) : List Int := xs.foldl withL o
theorem putL_take {o xs : List Int} {k : Nat} (h : k < xs.length) : putL o (xs.take (k + 1)) = withL (putL o (xs.take k)) xs[k]! := foldl_take_succ _ _ _ _ h
theorem putL_len (o : List Int) : ∀ xs : List Int, (putL o xs).length ≤ o.length + xs.length := by
  intro xs
  induction xs generalizing o with
  | nil => simp [putL]
  | cons x xs ih =>
    have := ih (withL o x)
    have h2 := withL_len o x
    show (putL (withL o x) xs).length ≤ _
    simp only [List.length_cons]
    omega
theorem putL_asc {o : List Int} : ∀ xs : List Int, Asc o → Asc (putL o xs) := by
  intro xs
  induction xs generalizing o with
  | nil => exact fun h => h
  | cons x xs ih => exact fun h => ih (withL_asc x h)
theorem putL_mem (o : List Int) : ∀ (xs : List Int) (x : Int), x ∈ putL o xs ↔ x ∈ o ∨ x ∈ xs := by
  intro xs
  induction xs generalizing o with
  | nil => simp [putL]
  | cons y ys ih =>
    intro x
    show x ∈ putL (withL o y) ys ↔ _
    rw [ih, withL_mem, List.mem_cons]
    constructor
    · rintro ((h | h) | h) <;> simp [h]
    · rintro (h | h | h) <;> simp [h]
theorem putL_filter_take {o : List Int} (p : Int → Bool) {xs : List Int} {k : Nat} (h : k < xs.length) : putL o ((xs.take (k + 1)).filter p) = if p xs[k]! then withL (putL o ((xs.take k).filter p)) xs[k]! else putL o ((xs.take k).filter p) := by
  rw [filter_take_succ p xs k h]
  by_cases hp : p xs[k]! = true
  · rw [if_pos hp, if_pos hp]; simp [putL]
  · rw [if_neg hp, if_neg hp]; simp

/-- the value v is a slice that reads as xs -/
def SlI (w : World) (v : Value) (xs : List Int) : Prop := ∃ A c, v = .slice A xs.length c ∧ xs.length ≤ c ∧ RdI w A xs
theorem SlI.below {w w' : World} {v : Value} {xs : List Int} (h : SlI w v xs) (hb : Below w.heap.size w w') : SlI w' v xs := by
  obtain ⟨A, c, hv, hc, hR⟩ := h
  exact ⟨A, c, hv, hc, hR.below hb⟩

set_option maxHeartbeats 1000000 in
theorem ref_normal (A : Option Addr) (c : Nat) (l : List Int) (w : World) (hmax : l.length ≤ 100000000) (hR : RdI w A l) :
    Calls Try.prog 40 #[.slice A l.length c] w (RetRc 1 Mp.encI w (putL [] l)) := by
  have hb0 : Below w.heap.size w (w.alloc (.cells #[] 3)) := (Below.refl _ _).alloc (Nat.le_refl _) _
  have hN0 : SlI (w.alloc (.cells #[] 3)) (.slice (some ⟨w.heap.size, 0, none⟩) 0 0) [] := ⟨_, 0, rfl, Nat.le_refl _, Rd.nil _⟩
  go_enter Try.func40, Try.ntmps40
  go_wp2_with fail
  go_loopw [3, 4] (fun v i wr => ∃ k : Nat, k ≤ l.length ∧ i = .int .i64 k ∧ SlI wr v (putL [] (l.take k)) ∧ Below w.heap.size w wr) (fun _ i _ => l.length - (intOf i).toNat)
  case atStart => exact ⟨0, by omega, rfl, hN0, hb0⟩
  case round =>
    obtain ⟨k, hk, rfl, ⟨A', c', rfl, hc', hRo⟩, hbw⟩ := hrel
    by_cases hlt : k < l.length
    · obtain ⟨b, off, rfl, hb, g1⟩ := RdI.get hR hbw hlt
      have HX := Lib.hid (putL_take (o := []) hlt)
      have hle := putL_len [] (l.take k)
      have hle2 : (l.take k).length ≤ l.length := by simp; omega
      generalize l[k]! = x at *
      generalize putL [] (l.take k) = o at *
      simp only [List.length_nil] at hle
      have cW := ref_with A' c' x o wr hc' (by omega) hRo
      have hs := hbw.size
      go_wp2_with fail
      refine cW.mono ?_
      rintro e w1 ⟨A2, c2, rfl, hc2, hR2, hb2⟩
      go_wp2
      go_roundw
      case rel => exact ⟨k + 1, by omega, by go_num, by rw [HX.out]; exact ⟨A2, c2, rfl, hc2, hR2⟩, hbw.trans (hb2.mono hs)⟩
      case measure => simp [intOf]; omega
    · obtain rfl : k = l.length := by omega
      simp only [List.take_length] at hRo hc' ⊢
      go_wp2
      go_ret
      exact ⟨A', c', rfl, hc', hRo, hbw⟩
end Go.Proofs
set_option linter.unusedVariables false
set_option linter.unusedSimpArgs false
namespace Go.Proofs
open Go.RowKit Go.Proofs.Mp

theorem put_normal (zs : List Int) : putL [] zs = setL zs := Asc.unique (putL_asc zs List.Pairwise.nil) (setL_asc zs) fun x => by simp [putL_mem, setL_mem]

/-- what a call leaves that returns a list -/
def PostS (w : World) (xs : List Int) (e : Ending) (w' : World) : Prop := ∃ v, e = .returned v ∧ SlI w' v xs ∧ Below w.heap.size w w'
theorem RetRc.post {w w' : World} {xs : List Int} {e : Ending} (h : RetRc 1 Mp.encI w xs e w') : PostS w xs e w' := by
  obtain ⟨A, c, rfl, hc, hR, hb⟩ := h
  exact ⟨_, rfl, ⟨A, c, rfl, hc, hR⟩, hb⟩
section
variable {w : World} {u v : Value} {xs ys : List Int}
theorem k_normal (h : SlI w v xs) (h1 : xs.length ≤ 1000000) : Calls Try.prog 47 #[v] w (PostS w (setL xs)) := by
  obtain ⟨A, c, rfl, hc, hR⟩ := h
  exact (idset_normal_c A c xs w (by omega) hR).mono fun e w' => RetRc.post
theorem k_rnormal (h : SlI w v xs) (h1 : xs.length ≤ 1000000) : Calls Try.prog 40 #[v] w (PostS w (setL xs)) := by
  obtain ⟨A, c, rfl, hc, hR⟩ := h
  rw [← put_normal]
  exact (ref_normal A c xs w (by omega) hR).mono fun e w' => RetRc.post
theorem k_same {b : Bool} (h : SlI w u xs) (g : SlI w v ys) (h1 : xs.length ≤ 1000000) (h2 : ys.length ≤ 1000000) (hb : decide (xs = ys) = b) : Calls Try.prog 18 #[u, v] w (RetV w (.bool b)) := by
  subst hb
  obtain ⟨A, c, rfl, hc, hR⟩ := h
  obtain ⟨B, d, rfl, hd, hS⟩ := g
  exact ref_same A B c d xs ys w (by omega) (by omega) hR hS
theorem k_valid {b : Bool} (h : SlI w v xs) (h1 : xs.length ≤ 1000000) (hb : ascB xs = b) : Calls Try.prog 27 #[v] w (RetV w (.bool b)) := by
  subst hb
  obtain ⟨A, c, rfl, hc, hR⟩ := h
  exact idset_valid A c xs w (by omega) hR
theorem k_rhas {b : Bool} {x : Int} (h : SlI w v xs) (h1 : xs.length ≤ 1000000) (hb : decide (x ∈ xs) = b) : Calls Try.prog 25 #[v, .int .i64 x] w (RetV w (.bool b)) := by
  subst hb
  obtain ⟨A, c, rfl, hc, hR⟩ := h
  exact ref_has A c x xs w (by omega) hR
end
theorem SlI.lit (w : World) (cs : Array Value) (xs : List Int) (n : Nat) (hn : n = xs.length) (h : cs = (xs.flatMap Mp.encI).toArray) : SlI (w.alloc (.cells cs 3)) (.slice (some ⟨w.heap.size, 0, none⟩) n n) xs := by
  subst hn
  exact ⟨_, _, rfl, Nat.le_refl _, rd_lit Mp.encI_len w cs 3 xs h⟩
theorem SlI.alloc {w : World} {v : Value} {xs : List Int} (h : SlI w v xs) (o : Obj) : SlI (w.alloc o) v xs := h.below ((Below.refl _ _).alloc (Nat.le_refl _) o)
theorem setL_lit (l r : List Int) (hr : Asc r) (h : ∀ x, x ∈ l ↔ x ∈ r) : setL l = r := Asc.unique (setL_asc l) hr fun x => by rw [setL_mem, h]
end Go.Proofs
/- Plain facts of a forest of parents, and of what is linked by it. No program is named here. -/
set_option linter.unusedVariables false
set_option linter.unusedSimpArgs false
namespace Go.Proofs.Uf

/-- p with the parent of x set to y -/
def upd (p : Int → Int) (x y : Int) : Int → Int := fun z => if z = x then y else p z
theorem upd_same (p : Int → Int) (x y : Int) : upd p x y x = y := by simp [upd]
theorem upd_ne (p : Int → Int) (x y : Int) {z : Int} (h : z ≠ x) : upd p x y z = p z := by simp [upd, h]

/-- r is reached from x by parents, and is its own parent -/
inductive Root (p : Int → Int) : Int → Int → Prop
  | here {x : Int} : p x = x → Root p x x
  | step {x r : Int} : p x ≠ x → Root p (p x) r → Root p x r

/-- every feature's parent is a feature, and no greater -/
def Inv (F : List Int) (p : Int → Int) : Prop := ∀ x ∈ F, p x ∈ F ∧ p x ≤ x

section
variable {p : Int → Int} {F : List Int}

theorem Root.self {x r : Int} (h : Root p x r) : p r = r := by
  induction h with
  | here h => exact h
  | step _ _ ih => exact ih
theorem Root.unique {x r s : Int} (h : Root p x r) (g : Root p x s) : r = s := by
  induction h with
  | here h =>
    cases g with
    | here _ => rfl
    | step h' _ => exact absurd h h'
  | step h _ ih =>
    cases g with
    | here h' => exact absurd h' h
    | step _ g => exact ih g
theorem Root.le {x r : Int} (hI : Inv F p) (hx : x ∈ F) (h : Root p x r) : r ∈ F ∧ r ≤ x := by
  induction h with
  | here h => exact ⟨hx, Int.le_refl _⟩
  | step h _ ih =>
    obtain ⟨h1, h2⟩ := hI _ hx
    obtain ⟨h3, h4⟩ := ih h1
    exact ⟨h3, by omega⟩
theorem Root.ex (hI : Inv F p) (lo : Int) (hlo : ∀ x ∈ F, lo ≤ x) : ∀ (n : Nat) (x : Int), x ∈ F → (x - lo).toNat ≤ n → ∃ r, Root p x r := by
  intro n
  induction n with
  | zero =>
    intro x hx hn
    obtain ⟨h1, h2⟩ := hI x hx
    have := hlo x hx
    have := hlo _ h1
    exact ⟨x, .here (by omega)⟩
  | succ n ih =>
    intro x hx hn
    obtain ⟨h1, h2⟩ := hI x hx
    by_cases he : p x = x
    · exact ⟨x, .here he⟩
    · have := hlo x hx
      have := hlo _ h1
      obtain ⟨r, hr⟩ := ih (p x) h1 (by omega)
      exact ⟨r, .step he hr⟩
theorem Inv.halve (hI : Inv F p) {x : Int} (hx : x ∈ F) : Inv F (upd p x (p (p x))) := by
  intro y hy
  by_cases h : y = x
  · subst h
    rw [upd_same]
    obtain ⟨h1, h2⟩ := hI y hy
    obtain ⟨h3, h4⟩ := hI _ h1
    exact ⟨h3, by omega⟩
  · rw [upd_ne _ _ _ h]; exact hI y hy
theorem Root.halve (hI : Inv F p) {x : Int} (hx : x ∈ F) {y r : Int} (hy : y ∈ F) (h : Root p y r) : Root (upd p x (p (p x))) y r := by
  induction h with
  | here h =>
    rename_i y
    refine .here ?_
    by_cases he : y = x
    · subst he; rw [upd_same, h, h]
    · rw [upd_ne _ _ _ he, h]
  | step hne _ ih =>
    rename_i y r _h
    obtain ⟨h1, h2⟩ := hI y hy
    have ih := ih h1
    by_cases he : y = x
    · subst he
      have h3 := (hI _ h1).2
      have hpx : p y ≠ y := hne
      refine .step (by rw [upd_same]; omega) ?_
      rw [upd_same]
      by_cases h4 : p (p y) = p y
      · rwa [h4] at ih ⊢
      · have e : upd p y (p (p y)) (p y) = p (p y) := upd_ne _ _ _ hpx
        cases ih with
        | here h' => rw [e] at h'; exact absurd h' h4
        | step _ g => rwa [e] at g
    · have e : upd p x (p (p x)) y = p y := upd_ne _ _ _ he
      exact .step (by rw [e]; exact hne) (by rw [e]; exact ih)
theorem Inv.link (hI : Inv F p) {u v : Int} (hu : u ∈ F) (huv : u ≤ v) : Inv F (upd p v u) := by
  intro y hy
  by_cases h : y = v
  · subst h; rw [upd_same]; exact ⟨hu, huv⟩
  · rw [upd_ne _ _ _ h]; exact hI y hy
theorem Root.link {u v : Int} (hu : p u = u) (hv : p v = v) {y r : Int} (h : Root p y r) : Root (upd p v u) y (if r = v then u else r) := by
  by_cases huv : u = v
  · subst huv
    have e : upd p u u = p := by
      funext z
      by_cases hz : z = u
      · subst hz; rw [upd_same, hu]
      · rw [upd_ne _ _ _ hz]
    rw [e]
    split
    · rename_i h'; rwa [← h']
    · exact h
  · have hroot : Root (upd p v u) u u := .here (by rw [upd_ne _ _ _ huv, hu])
    induction h with
    | here h =>
      rename_i y
      by_cases he : y = v
      · rw [if_pos he]
        subst he
        exact .step (by rw [upd_same]; exact huv) (by rw [upd_same]; exact hroot)
      · rw [if_neg he]; exact .here (by rw [upd_ne _ _ _ he, h])
    | step hne _ ih =>
      rename_i y r _h
      have he : y ≠ v := fun e => hne (by rw [e, hv])
      have e : upd p v u y = p y := upd_ne _ _ _ he
      exact .step (by rw [e]; exact hne) (by rw [e]; exact ih)
end

/-- x and y are linked by the pairs of E -/
inductive Conn (E : Int → Int → Prop) : Int → Int → Prop
  | refl (x : Int) : Conn E x x
  | edge {x y z : Int} : E x y → Conn E y z → Conn E x z
  | back {x y z : Int} : E y x → Conn E y z → Conn E x z
section
variable {E E' : Int → Int → Prop}
theorem Conn.trans {x y z : Int} (h : Conn E x y) (g : Conn E y z) : Conn E x z := by
  induction h with
  | refl _ => exact g
  | edge e _ ih => exact .edge e (ih g)
  | back e _ ih => exact .back e (ih g)
theorem Conn.symm {x y : Int} (h : Conn E x y) : Conn E y x := by
  induction h with
  | refl _ => exact .refl _
  | edge e _ ih => exact ih.trans (.back e (.refl _))
  | back e _ ih => exact ih.trans (.edge e (.refl _))
theorem Conn.mono (hE : ∀ x y, E x y → Conn E' x y) {x y : Int} (h : Conn E x y) : Conn E' x y := by
  induction h with
  | refl _ => exact .refl _
  | edge e _ ih => exact (hE _ _ e).trans ih
  | back e _ ih => exact (hE _ _ e).symm.trans ih
/-- one more pair -/
def more (E : Int → Int → Prop) (a b : Int) : Int → Int → Prop := fun x y => E x y ∨ (x = a ∧ y = b)
theorem Conn.more_iff {a b x y : Int} : Conn (more E a b) x y ↔ Conn E x y ∨ (Conn E x a ∧ Conn E b y) ∨ (Conn E x b ∧ Conn E a y) := by
  constructor
  · intro h
    induction h with
    | refl x => exact .inl (.refl x)
    | edge e _ ih =>
      rename_i x y z
      rcases e with e | ⟨rfl, rfl⟩
      · rcases ih with h | ⟨h1, h2⟩ | ⟨h1, h2⟩
        · exact .inl (.edge e h)
        · exact .inr (.inl ⟨.edge e h1, h2⟩)
        · exact .inr (.inr ⟨.edge e h1, h2⟩)
      · rcases ih with h | ⟨h1, h2⟩ | ⟨h1, h2⟩
        · exact .inr (.inl ⟨.refl _, h⟩)
        · exact .inr (.inl ⟨.refl _, h2⟩)
        · exact .inl h2
    | back e _ ih =>
      rename_i x y z
      rcases e with e | ⟨rfl, rfl⟩
      · rcases ih with h | ⟨h1, h2⟩ | ⟨h1, h2⟩
        · exact .inl (.back e h)
        · exact .inr (.inl ⟨.back e h1, h2⟩)
        · exact .inr (.inr ⟨.back e h1, h2⟩)
      · rcases ih with h | ⟨h1, h2⟩ | ⟨h1, h2⟩
        · exact .inr (.inr ⟨.refl _, h⟩)
        · exact .inl h2
        · exact .inr (.inr ⟨.refl _, h2⟩)
  · have hm : ∀ x y, Conn E x y → Conn (more E a b) x y := fun x y h => h.mono fun x y e => .edge (.inl e) (.refl _)
    rintro (h | ⟨h1, h2⟩ | ⟨h1, h2⟩)
    · exact hm _ _ h
    · exact (hm _ _ h1).trans (.edge (.inr ⟨rfl, rfl⟩) (hm _ _ h2))
    · exact (hm _ _ h1).trans (.back (.inr ⟨rfl, rfl⟩) (hm _ _ h2))
end

/-- two features have one root exactly if they are linked -/
def Sound (F : List Int) (p : Int → Int) (E : Int → Int → Prop) : Prop := ∀ x ∈ F, ∀ y ∈ F, ∀ r s, Root p x r → Root p y s → (r = s ↔ Conn E x y)

theorem Sound.start (F : List Int) (p : Int → Int) (hp : ∀ x ∈ F, p x = x) : Sound F p (fun _ _ => False) := by
  intro x hx y hy r s h g
  obtain rfl := h.unique (.here (hp x hx))
  obtain rfl := g.unique (.here (hp y hy))
  constructor
  · rintro rfl; exact .refl _
  · intro h
    cases h with
    | refl => rfl
    | edge e _ => exact e.elim
    | back e _ => exact e.elim
theorem Sound.keep {F : List Int} {p q : Int → Int} {E : Int → Int → Prop} (h : Sound F p E) (hq : ∀ x ∈ F, ∀ r, Root p x r → Root q x r) (hex : ∀ x ∈ F, ∃ r, Root p x r) : Sound F q E := by
  intro x hx y hy r s h1 h2
  obtain ⟨r', hr'⟩ := hex x hx
  obtain ⟨s', hs'⟩ := hex y hy
  obtain rfl := (hq x hx _ hr').unique h1
  obtain rfl := (hq y hy _ hs').unique h2
  exact h x hx y hy _ _ hr' hs'
theorem Sound.same {F : List Int} {p : Int → Int} {E : Int → Int → Prop} (h : Sound F p E) {E' : Int → Int → Prop} (hE : ∀ x y, Conn E x y ↔ Conn E' x y) : Sound F p E' := by
  intro x hx y hy r s h1 h2
  rw [← hE]
  exact h x hx y hy r s h1 h2
theorem Sound.link {F : List Int} {p : Int → Int} {E : Int → Int → Prop} (h : Sound F p E) (hex : ∀ x ∈ F, ∃ r, Root p x r) {a b u v m n : Int} (ha : a ∈ F) (hb : b ∈ F) (hu : Root p a u) (hv : Root p b v)
    (hmn : (m = u ∧ n = v) ∨ (m = v ∧ n = u)) : Sound F (upd p n m) (more E a b) := by
  intro x hx y hy r s h1 h2
  obtain ⟨r', hr'⟩ := hex x hx
  obtain ⟨s', hs'⟩ := hex y hy
  have hm : p m = m := by rcases hmn with ⟨rfl, rfl⟩ | ⟨rfl, rfl⟩ <;> first | exact hu.self | exact hv.self
  have hn : p n = n := by rcases hmn with ⟨rfl, rfl⟩ | ⟨rfl, rfl⟩ <;> first | exact hu.self | exact hv.self
  obtain rfl := (hr'.link hm hn).unique h1
  obtain rfl := (hs'.link hm hn).unique h2
  have cxy := h x hx y hy _ _ hr' hs'
  have cxa := h x hx a ha _ _ hr' hu
  have cxb := h x hx b hb _ _ hr' hv
  have cay := h a ha y hy _ _ hu hs'
  have cby := h b hb y hy _ _ hv hs'
  rw [Conn.more_iff, ← cxy, ← cxa, ← cxb, ← cay, ← cby]
  rcases hmn with ⟨rfl, rfl⟩ | ⟨rfl, rfl⟩
  · by_cases e1 : r' = n <;> by_cases e2 : s' = n <;> simp only [e1, e2, if_true, if_false]
    · simp
    · constructor
      · intro e; exact .inr (.inr ⟨trivial, e⟩)
      · rintro (e | ⟨_, e⟩ | ⟨_, e⟩)
        · exact absurd e.symm e2
        · exact absurd e.symm e2
        · exact e
    · constructor
      · intro e; exact .inr (.inl ⟨e, trivial⟩)
      · rintro (e | ⟨e, _⟩ | ⟨e, _⟩)
        · exact e.elim
        · exact e
        · exact e.elim
    · constructor
      · intro e; exact .inl e
      · rintro (e | ⟨_, e⟩ | ⟨e, _⟩)
        · exact e
        · exact absurd e.symm e2
        · exact e.elim
  · by_cases e1 : r' = n <;> by_cases e2 : s' = n <;> simp only [e1, e2, if_true, if_false]
    · simp
    · constructor
      · intro e; exact .inr (.inl ⟨trivial, e⟩)
      · rintro (e | ⟨_, e⟩ | ⟨_, e⟩)
        · exact absurd e.symm e2
        · exact e
        · exact absurd e.symm e2
    · constructor
      · intro e; exact .inr (.inr ⟨e, trivial⟩)
      · rintro (e | ⟨e, _⟩ | ⟨e, _⟩)
        · exact e.elim
        · exact e.elim
        · exact e
    · constructor
      · intro e; exact .inl e
      · rintro (e | ⟨e, _⟩ | ⟨_, e⟩)
        · exact e
        · exact e.elim
        · exact absurd e.symm e2

/-- the parents p lead each feature x to ρ x -/
def UF (F : List Int) (p ρ : Int → Int) : Prop := Inv F p ∧ ∀ x ∈ F, Root p x (ρ x)
section
variable {F : List Int} {p ρ : Int → Int}
theorem UF.mem (h : UF F p ρ) {x : Int} (hx : x ∈ F) : ρ x ∈ F ∧ ρ x ≤ x := (h.2 x hx).le h.1 hx
theorem UF.self (h : UF F p ρ) {x : Int} (hx : x ∈ F) : p (ρ x) = ρ x := (h.2 x hx).self
theorem UF.idem (h : UF F p ρ) {x : Int} (hx : x ∈ F) : ρ (ρ x) = ρ x := (h.2 _ (h.mem hx).1).unique (.here (h.self hx))
theorem UF.here (h : UF F p ρ) {x : Int} (hx : x ∈ F) (hp : p x = x) : ρ x = x := (h.2 x hx).unique (.here hp)
theorem UF.up (h : UF F p ρ) {x : Int} (hx : x ∈ F) : ρ (p x) = ρ x := by
  by_cases hp : p x = x
  · rw [hp]
  · have h1 := h.2 x hx
    generalize ρ x = r at h1
    cases h1 with
    | here h' => exact absurd h' hp
    | step _ g => exact (h.2 _ (h.1 x hx).1).unique g
theorem UF.halve (h : UF F p ρ) {x : Int} (hx : x ∈ F) : UF F (upd p x (p (p x))) ρ := ⟨h.1.halve hx, fun y hy => (h.2 y hy).halve h.1 hx hy⟩
/-- the root n is hung on the root m -/
def join (ρ : Int → Int) (n m : Int) : Int → Int := fun y => if ρ y = n then m else ρ y
theorem UF.link (h : UF F p ρ) {m n : Int} (hm : m ∈ F) (hpm : p m = m) (hpn : p n = n) (hmn : m ≤ n) : UF F (upd p n m) (join ρ n m) :=
  ⟨h.1.link hm hmn, fun y hy => (h.2 y hy).link hpm hpn⟩
theorem UF.start (F : List Int) (p : Int → Int) (hp : ∀ x ∈ F, p x = x) : UF F p id := ⟨fun x hx => by rw [hp x hx]; exact ⟨hx, Int.le_refl _⟩, fun x hx => .here (hp x hx)⟩
end

/-- two features have one root exactly if they are linked -/
def SoundR (F : List Int) (ρ : Int → Int) (E : Int → Int → Prop) : Prop := ∀ x ∈ F, ∀ y ∈ F, (ρ x = ρ y ↔ Conn E x y)
theorem SoundR.start (F : List Int) (E : Int → Int → Prop) (hE : ∀ x y, ¬ E x y) : SoundR F id E := by
  intro x hx y hy
  constructor
  · intro h
    have h' : x = y := h
    subst h'; exact .refl _
  · intro h
    cases h with
    | refl => rfl
    | edge e _ => exact (hE _ _ e).elim
    | back e _ => exact (hE _ _ e).elim
theorem SoundR.same {F : List Int} {ρ : Int → Int} {E E' : Int → Int → Prop} (h : SoundR F ρ E) (hE : ∀ x y, Conn E x y ↔ Conn E' x y) : SoundR F ρ E' := by
  intro x hx y hy
  rw [← hE]
  exact h x hx y hy
theorem SoundR.iff {F : List Int} {ρ : Int → Int} {E E' : Int → Int → Prop} (h : SoundR F ρ E) (hE : ∀ x y, E x y ↔ E' x y) : SoundR F ρ E' := by
  have : E = E' := by funext x y; exact propext (hE x y)
  rwa [← this]
theorem SoundR.join {F : List Int} {p ρ : Int → Int} {E : Int → Int → Prop} (hU : UF F p ρ) (h : SoundR F ρ E) {a b m n : Int} (ha : a ∈ F) (hb : b ∈ F)
    (hmn : (m = ρ a ∧ n = ρ b) ∨ (m = ρ b ∧ n = ρ a)) : SoundR F (join ρ n m) (more E a b) := by
  have ex : ∀ x ∈ F, ∃ r, Root p x r := fun x hx => ⟨_, hU.2 x hx⟩
  have hS : Sound F p E := by
    intro x hx y hy r s h1 h2
    obtain rfl := (hU.2 x hx).unique h1
    obtain rfl := (hU.2 y hy).unique h2
    exact h x hx y hy
  have h2 := hS.link ex ha hb (hU.2 a ha) (hU.2 b hb) hmn
  have hm : p m = m := by rcases hmn with ⟨rfl, rfl⟩ | ⟨rfl, rfl⟩ <;> first | exact hU.self ha | exact hU.self hb
  have hn : p n = n := by rcases hmn with ⟨rfl, rfl⟩ | ⟨rfl, rfl⟩ <;> first | exact hU.self ha | exact hU.self hb
  intro x hx y hy
  exact h2 x hx y hy _ _ ((hU.2 x hx).link hm hn) ((hU.2 y hy).link hm hn)
/-- the root of a feature is the least that is linked to it -/
theorem SoundR.least {F : List Int} {p ρ : Int → Int} {E : Int → Int → Prop} (hU : UF F p ρ) (h : SoundR F ρ E) {x y : Int} (hx : x ∈ F) (hy : y ∈ F) (hc : Conn E x y) : ρ x ≤ y := by
  rw [(h x hx y hy).2 hc]
  exact (hU.mem hy).2
end Go.Proofs.Uf
/- What Pairs, Clusters and Free are, on lists. No program is named here. -/
set_option linter.unusedVariables false
set_option linter.unusedSimpArgs false
namespace Go.Proofs.Uf

structure Cand where
  f : Int
  x0 : Int
  y0 : Int
  x1 : Int
  y1 : Int
  ax : Int
  ay : Int
  co : Int
  deriving Inhabited, DecidableEq

def overB (a b : Cand) : Bool := decide (max a.x0 b.x0 < min a.x1 b.x1) && decide (max a.y0 b.y0 < min a.y1 b.y1)
def hitB (a b : Cand) : Bool := decide (a.f = b.f) || overB a b
theorem hitB_comm (a b : Cand) : hitB a b = hitB b a := by
  unfold hitB overB
  rw [Int.max_comm a.x0, Int.min_comm a.x1, Int.max_comm a.y0, Int.min_comm a.y1]
  congr 1
  exact decide_eq_decide.2 eq_comm
theorem hitB_self (a : Cand) : hitB a a = true := by simp [hitB]

def feats (l : List Cand) : List Int := l.map (·.f)
theorem feats_get {l : List Cand} {i : Nat} (h : i < l.length) : l[i]!.f ∈ feats l := by
  unfold feats
  rw [List.mem_map]
  exact ⟨l[i]!, by simp [h], rfl⟩

def At (l : List Cand) (i j : Nat) (x y : Int) : Prop := i < l.length ∧ j < l.length ∧ hitB l[i]! l[j]! = true ∧ x = l[i]!.f ∧ y = l[j]!.f
/-- the features of two candidates that hit each other -/
def Ed (l : List Cand) (x y : Int) : Prop := ∃ i j, At l i j x y
/-- of the pairs before i, j -/
def EdTo (l : List Cand) (i j : Nat) (x y : Int) : Prop := ∃ i' j', j' < i' ∧ (i' < i ∨ (i' = i ∧ j' < j)) ∧ At l i' j' x y

theorem edTo_zero (l : List Cand) (x y : Int) : ¬ EdTo l 0 0 x y := by
  rintro ⟨i, j, _, h | ⟨_, h⟩, _⟩ <;> omega
theorem edTo_row (l : List Cand) (i : Nat) (x y : Int) : EdTo l (i + 1) 0 x y ↔ EdTo l i i x y := by
  constructor
  · rintro ⟨i', j', h1, h2, h3⟩
    exact ⟨i', j', h1, by omega, h3⟩
  · rintro ⟨i', j', h1, h2, h3⟩
    exact ⟨i', j', h1, by omega, h3⟩
theorem edTo_hit {l : List Cand} {i j : Nat} (hj : j < i) (hi : i < l.length) (h : hitB l[i]! l[j]! = true) (x y : Int) : more (EdTo l i j) l[i]!.f l[j]!.f x y ↔ EdTo l i (j + 1) x y := by
  constructor
  · rintro (⟨i', j', h1, h2, h3⟩ | ⟨rfl, rfl⟩)
    · exact ⟨i', j', h1, by omega, h3⟩
    · exact ⟨i, j, hj, by omega, hi, by omega, h, rfl, rfl⟩
  · rintro ⟨i', j', h1, h2, h3⟩
    by_cases e : i' = i ∧ j' = j
    · obtain ⟨rfl, rfl⟩ := e
      exact .inr ⟨h3.2.2.2.1, h3.2.2.2.2⟩
    · exact .inl ⟨i', j', h1, by omega, h3⟩
theorem edTo_miss {l : List Cand} {i j : Nat} (h : hitB l[i]! l[j]! = false) (x y : Int) : EdTo l i j x y ↔ EdTo l i (j + 1) x y := by
  constructor
  · rintro ⟨i', j', h1, h2, h3⟩
    exact ⟨i', j', h1, by omega, h3⟩
  · rintro ⟨i', j', h1, h2, h3⟩
    by_cases e : i' = i ∧ j' = j
    · obtain ⟨rfl, rfl⟩ := e
      rw [h3.2.2.1] at h
      cases h
    · exact ⟨i', j', h1, by omega, h3⟩
theorem conn_all (l : List Cand) (x y : Int) : Conn (EdTo l l.length 0) x y ↔ Conn (Ed l) x y := by
  constructor
  · exact fun h => h.mono fun x y ⟨i, j, _, _, h⟩ => .edge ⟨i, j, h⟩ (.refl _)
  · refine fun h => h.mono ?_
    rintro x y ⟨i, j, h1, h2, h3, rfl, rfl⟩
    rcases Nat.lt_trichotomy j i with h | rfl | h
    · exact .edge ⟨i, j, h, .inl h1, h1, h2, h3, rfl, rfl⟩ (.refl _)
    · exact .refl _
    · exact .back ⟨j, i, h, .inl h2, h2, h1, by rw [hitB_comm]; exact h3, rfl, rfl⟩ (.refl _)
theorem conn_feat {l : List Cand} {x y : Int} (h : Conn (Ed l) x y) (hx : x ∈ feats l) : y ∈ feats l := by
  induction h with
  | refl _ => exact hx
  | edge e _ ih => obtain ⟨i, j, h1, h2, _, rfl, rfl⟩ := e; exact ih (feats_get h2)
  | back e _ ih => obtain ⟨i, j, h1, h2, _, rfl, rfl⟩ := e; exact ih (feats_get h1)

noncomputable def dec (p : Prop) : Bool := @decide p (Classical.propDecidable p)
theorem dec_iff (p : Prop) : dec p = true ↔ p := by unfold dec; simp
theorem dec_eq {p : Prop} {b : Bool} (h : b = true ↔ p) : dec p = b := by
  have := dec_iff p
  rcases hb : b with _ | _ <;> rcases hd : dec p with _ | _ <;> simp_all
/-- the groups: of each feature that is the least of those linked to it, all that are linked to it, ascending; 'all': the features, ascending -/
noncomputable def clS (E : Int → Int → Prop) (all : List Int) : List (List Int) := (all.filter fun x => dec (∀ y ∈ all, Conn E x y → x ≤ y)).map fun r => all.filter fun x => dec (Conn E r x)

/-- the roots among the features pre -/
def rts (ρ : Int → Int) (pre : List Int) : List Int := pre.filter fun x => decide (ρ x = x)
/-- the groups of the features pre, by their roots -/
def grp (ρ : Int → Int) (pre : List Int) : List (List Int) := (rts ρ pre).map fun r => pre.filter fun x => decide (ρ x = r)
theorem grp_len (ρ : Int → Int) (pre : List Int) : (grp ρ pre).length = (rts ρ pre).length := by simp [grp]
theorem grp_get (ρ : Int → Int) (pre : List Int) {i : Nat} (h : i < (rts ρ pre).length) : (grp ρ pre)[i]! = pre.filter fun x => decide (ρ x = (rts ρ pre)[i]!) := by
  simp [grp, h]
theorem rts_new {ρ : Int → Int} {pre : List Int} {x : Int} (h : ρ x = x) : rts ρ (pre ++ [x]) = rts ρ pre ++ [x] := by simp [rts, h]
theorem rts_old {ρ : Int → Int} {pre : List Int} {x : Int} (h : ρ x ≠ x) : rts ρ (pre ++ [x]) = rts ρ pre := by simp [rts, h]
theorem grp_new {ρ : Int → Int} {pre : List Int} {x : Int} (hlt : ∀ y ∈ pre, y < x) (hle : ∀ y ∈ pre, ρ y ≤ y) (h : ρ x = x) : grp ρ (pre ++ [x]) = grp ρ pre ++ [[x]] := by
  unfold grp
  rw [rts_new h, List.map_append]
  congr 1
  · refine List.map_congr_left fun r hr => ?_
    have hr' : r ∈ pre := (List.mem_filter.1 hr).1
    have := hlt r hr'
    have hne : ¬ ρ x = r := by omega
    simp [List.filter_append, hne]
  · have e : pre.filter (fun y => decide (ρ y = x)) = [] := by
      rw [List.filter_eq_nil_iff]
      intro y hy
      have := hlt y hy
      have := hle y hy
      simp only [decide_eq_true_eq]
      omega
    simp [List.filter_append, e, h]
theorem grp_old {ρ : Int → Int} {pre : List Int} {x : Int} {i : Nat} (hnd : (rts ρ pre).Pairwise (· < ·)) (h : ρ x ≠ x) (hi : i < (rts ρ pre).length) (hx : ρ x = (rts ρ pre)[i]!) :
    grp ρ (pre ++ [x]) = (grp ρ pre).set i ((grp ρ pre)[i]! ++ [x]) := by
  rw [grp_get _ _ hi]
  have e0 : grp ρ (pre ++ [x]) = (rts ρ pre).map fun r => pre.filter (fun x => decide (ρ x = r)) ++ (if ρ x = r then [x] else []) := by
    unfold grp
    rw [rts_old h]
    refine List.map_congr_left fun r hr => ?_
    rw [List.filter_append]
    congr 1
    by_cases hxr : ρ x = r <;> simp [hxr]
  rw [e0]
  unfold grp
  generalize rts ρ pre = R at *
  refine List.ext_getElem (by simp) fun j h1 h2 => ?_
  have hj : j < R.length := by simpa using h1
  by_cases e : i = j
  · subst e
    simp only [List.getElem_set_self, List.getElem_map]
    have hx' : ρ x = R[i] := by rw [hx, getElem!_pos R i hi]
    rw [if_pos hx', getElem!_pos R i hi]
  · rw [List.getElem_set_ne e]
    simp only [List.getElem_map]
    have hne : ¬ ρ x = R[j] := by
      rw [hx, getElem!_pos R i hi]
      rcases Nat.lt_or_gt_of_ne e with h3 | h3
      · have := (List.pairwise_iff_getElem.1 hnd) i j hi hj h3; omega
      · have := (List.pairwise_iff_getElem.1 hnd) j i hj hi h3; omega
    simp [hne]

theorem grp_clS {ρ p : Int → Int} {all F : List Int} {E : Int → Int → Prop} (hF : ∀ x, x ∈ all ↔ x ∈ F) (hU : UF F p ρ) (hS : SoundR F ρ E) : grp ρ all = clS E all := by
  have hroot : ∀ x ∈ all, (ρ x = x ↔ ∀ y ∈ all, Conn E x y → x ≤ y) := by
    intro x hx
    have hx' := (hF x).1 hx
    constructor
    · intro h y hy hc
      have := hS.least hU hx' ((hF y).1 hy) hc
      omega
    · intro h
      have hm := hU.mem hx'
      have h1 := h (ρ x) ((hF _).2 hm.1) ((hS x hx' _ hm.1).1 (hU.idem hx').symm)
      omega
  unfold grp rts clS
  have e1 : (all.filter fun x => decide (ρ x = x)) = all.filter fun x => dec (∀ y ∈ all, Conn E x y → x ≤ y) :=
    List.filter_congr fun x hx => (dec_eq (by simpa using hroot x hx)).symm
  rw [e1]
  refine List.map_congr_left fun r hr => ?_
  have hr1 := List.mem_filter.1 hr
  have hrr : ρ r = r := (hroot r hr1.1).2 ((dec_iff _).1 hr1.2)
  refine List.filter_congr fun x hx => (dec_eq ?_).symm
  have := hS r ((hF r).1 hr1.1) x ((hF x).1 hx)
  rw [hrr] at this
  rw [← this]
  simp [eq_comm]

end Go.Proofs.Uf
set_option linter.unusedVariables false
set_option linter.unusedSimpArgs false
namespace Go.Proofs
open Go.RowKit Go.Proofs.Mp Go.Proofs.Uf

/-- a box's value -/
def aggB (c : Cand) : Value := .agg #[.int .i64 c.x0, .int .i64 c.y0, .int .i64 c.x1, .int .i64 c.y1]
/-- a candidate's value, and its eight cells -/
def aggC (c : Cand) : Value := .agg #[.int .i64 c.f, .int .i64 c.x0, .int .i64 c.y0, .int .i64 c.x1, .int .i64 c.y1, .int .i64 c.ax, .int .i64 c.ay, .int .i64 c.co]
def encC (c : Cand) : List Value := [.int .i64 c.f, .int .i64 c.x0, .int .i64 c.y0, .int .i64 c.x1, .int .i64 c.y1, .int .i64 c.ax, .int .i64 c.ay, .int .i64 c.co]
theorem encC_len (c : Cand) : (encC c).length = 8 := rfl

theorem bw2 (w : World) (o1 o2 : Obj) : Below w.heap.size w ((w.alloc o1).alloc o2) := ((Below.refl _ _).alloc (Nat.le_refl _) _).alloc (by simp) _

set_option maxHeartbeats 1000000 in
theorem geom_overlap (a b : Cand) (w : World) : Calls Try.prog 48 #[aggB a, aggB b] w (RetV w (.bool (overB a b))) := by
  obtain ⟨af, a0, a1, a2, a3, ax, ay, ac⟩ := a
  obtain ⟨bf, b0, b1, b2, b3, bx, byy, bc⟩ := b
  unfold aggB overB
  dsimp only
  by_cases h1 : max a0 b0 < min a2 b2
  · by_cases h2 : max a1 b1 < min a3 b3
    all_goals
      go_enter Try.func48, Try.ntmps48
      go_wp2
      go_ret
      exact RetV.bool (by simp [h1, h2]) (bw2 _ _ _)
  · go_enter Try.func48, Try.ntmps48
    go_wp2
    go_ret
    exact RetV.bool (by simp; intros; omega) (bw2 _ _ _)

set_option maxHeartbeats 2000000 in
theorem ref_overlap (a b : Cand) (w : World) : Calls Try.prog 49 #[aggB a, aggB b] w (RetV w (.bool (overB a b))) := by
  obtain ⟨af, a0, a1, a2, a3, ax, ay, ac⟩ := a
  obtain ⟨bf, b0, b1, b2, b3, bx, byy, bc⟩ := b
  have ov : overB ⟨af, a0, a1, a2, a3, ax, ay, ac⟩ ⟨bf, b0, b1, b2, b3, bx, byy, bc⟩ = decide (a0 < a2 ∧ b0 < b2 ∧ a0 < b2 ∧ b0 < a2 ∧ a1 < a3 ∧ b1 < b3 ∧ a1 < b3 ∧ b1 < a3) := by
    unfold overB
    dsimp only
    rw [← Bool.decide_and, decide_eq_decide]
    omega
  rw [ov]
  clear ov
  unfold aggB
  dsimp only
  by_cases h0 : a0 < a2
  rotate_left
  · go_enter Try.func49, Try.ntmps49
    go_wp2
    go_ret
    exact RetV.bool (by simp; intros; omega) (bw2 _ _ _)
  by_cases h1 : b0 < b2
  rotate_left
  · go_enter Try.func49, Try.ntmps49
    go_wp2
    go_ret
    exact RetV.bool (by simp; intros; omega) (bw2 _ _ _)
  by_cases h2 : a0 < b2
  rotate_left
  · go_enter Try.func49, Try.ntmps49
    go_wp2
    go_ret
    exact RetV.bool (by simp; intros; omega) (bw2 _ _ _)
  by_cases h3 : b0 < a2
  rotate_left
  · go_enter Try.func49, Try.ntmps49
    go_wp2
    go_ret
    exact RetV.bool (by simp; intros; omega) (bw2 _ _ _)
  by_cases h4 : a1 < a3
  rotate_left
  · go_enter Try.func49, Try.ntmps49
    go_wp2
    go_ret
    exact RetV.bool (by simp; intros; omega) (bw2 _ _ _)
  by_cases h5 : b1 < b3
  rotate_left
  · go_enter Try.func49, Try.ntmps49
    go_wp2
    go_ret
    exact RetV.bool (by simp; intros; omega) (bw2 _ _ _)
  by_cases h6 : a1 < b3
  rotate_left
  · go_enter Try.func49, Try.ntmps49
    go_wp2
    go_ret
    exact RetV.bool (by simp; intros; omega) (bw2 _ _ _)
  by_cases h7 : b1 < a3
  rotate_left
  · go_enter Try.func49, Try.ntmps49
    go_wp2
    go_ret
    exact RetV.bool (by simp; intros; omega) (bw2 _ _ _)
  go_enter Try.func49, Try.ntmps49
  go_wp2
  go_ret
  exact RetV.bool (by simp [h0, h1, h2, h3, h4, h5, h6, h7]) (bw2 _ _ _)

set_option maxHeartbeats 1000000 in
theorem ov_hit (a b : Cand) (w : World) : Calls Try.prog 28 #[aggC a, aggC b] w (RetV w (.bool (hitB a b))) := by
  have c0 := fun W => geom_overlap a b W
  have HB := Lib.hid (show hitB a b = (decide (a.f = b.f) || overB a b) from rfl)
  generalize hitB a b = r at *
  generalize overB a b = v at *
  obtain ⟨af, a0, a1, a2, a3, ax, ay, ac⟩ := a
  obtain ⟨bf, b0, b1, b2, b3, bx, byy, bc⟩ := b
  unfold aggB at c0
  unfold aggC
  dsimp only at *
  have C0 := Lib.hid c0
  clear c0
  by_cases h : af = bf
  · go_enter Try.func28, Try.ntmps28
    go_wp2
    go_ret
    exact RetV.bool (by rw [HB.out]; simp [h]) (bw2 _ _ _)
  · go_enter Try.func28, Try.ntmps28
    go_wp2_with fail
    refine (C0.out _).mono ?_
    rintro e w1 ⟨rfl, hb1⟩
    go_wp2
    go_ret
    exact RetV.bool (by rw [HB.out]; simp [h]) ((bw2 _ _ _).trans (hb1.mono (bw2 _ _ _).size))

set_option maxHeartbeats 1000000 in
theorem ref_hit (a b : Cand) (w : World) : Calls Try.prog 30 #[aggC a, aggC b] w (RetV w (.bool (hitB a b))) := by
  have c0 := fun W => ref_overlap a b W
  have HB := Lib.hid (show hitB a b = (decide (a.f = b.f) || overB a b) from rfl)
  generalize hitB a b = r at *
  generalize overB a b = v at *
  obtain ⟨af, a0, a1, a2, a3, ax, ay, ac⟩ := a
  obtain ⟨bf, b0, b1, b2, b3, bx, byy, bc⟩ := b
  unfold aggB at c0
  unfold aggC
  dsimp only at *
  have C0 := Lib.hid c0
  clear c0
  by_cases h : af = bf
  · go_enter Try.func30, Try.ntmps30
    go_wp2
    go_ret
    exact RetV.bool (by rw [HB.out]; simp [h]) (bw2 _ _ _)
  · go_enter Try.func30, Try.ntmps30
    go_wp2_with fail
    refine (C0.out _).mono ?_
    rintro e w1 ⟨rfl, hb1⟩
    go_wp2
    go_ret
    exact RetV.bool (by rw [HB.out]; simp [h]) ((bw2 _ _ _).trans (hb1.mono (bw2 _ _ _).size))
end Go.Proofs
/- A map from integers to integers of the call's own, read as a function. No program is named here. -/
set_option linter.unusedVariables false
set_option linter.unusedSimpArgs false
namespace Go.Proofs.Mp
open Go.RowKit Go.Maps Go.Proofs.Uf

abbrev keyI (x : Int) : Lit := .int .i64 x
/-- block B is a map of at most N entries; its keys are those of 'keys'; at each of these it holds p -/
def MapF (P : Program) (k : TypeId) (w : World) (B N : Nat) (keys : Int → Prop) (p : Int → Int) : Prop :=
  ∃ D : DataW Unit, w.ownsMap P k (plainElem P k) B (Maps.size D) D ∧ Maps.size D ≤ N ∧ (∀ x, Maps.has D (keyI x) = true ↔ keys x) ∧
    ∀ x, keys x → D.atKey (keyI x) (.lit (.int .i64 0)) = .lit (.int .i64 (p x))

section
variable {P : Program} {k t : TypeId} {w w' : World} {B N : Nat} {keys : Int → Prop} {p : Int → Int}
theorem MapF.lt (h : MapF P k w B N keys p) : B < w.heap.size := by obtain ⟨D, h1, _⟩ := h; exact h1.lt
theorem MapF.kept {row : Option Nat} (h : MapF P k w B N keys p) (hg : w.grownBy w' row) (hne : some B ≠ row) : MapF P k w' B N keys p := by
  obtain ⟨D, h1, r⟩ := h
  exact ⟨D, h1.kept hg hne, r⟩
theorem MapF.below (h : MapF P k w B N keys p) {n : Nat} (hb : Below n w w') (hn : B < n) : MapF P k w' B N keys p := by
  obtain ⟨D, ⟨es, clock, hh, r⟩, q⟩ := h
  exact ⟨D, ⟨es, clock, (hb.block B hn).trans hh, r⟩, q⟩
theorem MapF.keys_iff (h : MapF P k w B N keys p) {keys' : Int → Prop} (hk : ∀ x, keys x ↔ keys' x) : MapF P k w B N keys' p := by
  have : keys = keys' := by funext x; exact propext (hk x)
  rwa [← this]
theorem MapF.mono (h : MapF P k w B N keys p) {N' : Nat} (hN : N ≤ N') : MapF P k w B N' keys p := by
  obtain ⟨D, h1, h2, r⟩ := h
  exact ⟨D, h1, Nat.le_trans h2 hN, r⟩
theorem MapF.fn (h : MapF P k w B N keys p) {q : Int → Int} (hq : ∀ x, keys x → p x = q x) : MapF P k w B N keys q := by
  obtain ⟨D, h1, h2, h3, h4⟩ := h
  exact ⟨D, h1, h2, h3, fun x hx => by rw [h4 x hx, hq x hx]⟩
theorem MapF.made (w : World) : MapF P k (w.alloc (.map #[] 0)) w.heap.size 0 (fun _ => False) p := by
  refine ⟨.map [], World.ownsMap_made w P k _, Nat.le_refl _, fun x => ?_, fun x hx => hx.elim⟩
  simp [Maps.has]

theorem ownsMap_exact {D : DataW Unit} {n : Nat} (h : w.ownsMap P k (plainElem P k) B n D) : w.ownsMap P k (plainElem P k) B (Maps.size D) D := by
  obtain ⟨es, clock, hb, F, hs, rfl⟩ := h
  exact ⟨es, clock, hb, F, by simp [Maps.size, length_sorted], rfl⟩

theorem MapF.put (hk : P.underlying k = some (.int .i64)) {D : DataW Unit} (h1 : w.ownsMap P k (plainElem P k) B (Maps.size D) D) (h2 : Maps.size D ≤ N) (h3 : ∀ x, Maps.has D (keyI x) = true ↔ keys x)
    (h4 : ∀ x, keys x → D.atKey (keyI x) (.lit (.int .i64 0)) = .lit (.int .i64 (p x))) {x y : Int} {M n : Nat} (hM : (keys x ∧ N ≤ M) ∨ N + 1 ≤ M) (hw : w'.ownsMap P k (plainElem P k) B n (D.put (keyI x) (.lit (.int .i64 y)))) (hkey : WideAt.IsKeyLit (keyI x)) :
    MapF P k w' B M (fun z => z = x ∨ keys z) (upd p x y) := by
  have hT := h1.tidy (int_keyed hk)
  have hI := h1.isMap
  refine ⟨_, ownsMap_exact hw, ?_, fun z => ?_, fun z hz => ?_⟩
  · rw [size_put hT]
    split
    · rename_i hh
      rcases hM with ⟨_, hM⟩ | hM <;> omega
    · rename_i hh
      rcases hM with ⟨hx, hM⟩ | hM
      · exact absurd ((h3 x).2 hx) hh
      · omega
  · by_cases he : z = x
    · subst he
      rw [has_put_same hI hkey]
      simp
    · rw [has_put_other (by simp [keyI, he]), h3]
      simp [he]
  · by_cases he : z = x
    · subst he
      rw [atKey_put_same hI hkey, upd_same]
    · rw [atKey_put_other (by simp [keyI, he]), upd_ne _ _ _ he]
      exact h4 z (hz.resolve_left he)
end

section
variable {P : Program} {k t : TypeId} {w : World} {B N : Nat} {keys : Int → Prop} {p : Int → Int} {ops : Array Oper} {rest : List Oper} {o : Oper} {a : Act} {Q : Exit → Act → World → Prop}
theorem MapF.look (h : MapF P k w B N keys p) (hg : o.guard = none) (m x : Operand) (hop : o.op = Op.lookup t m x false) (ht : P.underlying t = some (.map k k)) (hk : P.underlying k = some (.int .i64)) (hz : (zeroValue k).run P w = .ok (.int .i64 0) w)
    (hm : a.eval m = .map (some B)) (n : Int) (hx : a.eval x = .int .i64 n) (hwf : (Lit.int .i64 n).wf = true) (hn : keys n) (hK : wpList P ops Q rest (a.put o.dst (.int .i64 (p n))) w) : wpList P ops Q (o :: rest) a w := by
  obtain ⟨D, h1, h2, h3, h4⟩ := h
  refine wpList_lookup_own_int w hg m x t hop k k .i64 (int_keyed hk) ht hk hz B _ D hm h1 (.int .i64 n) (keyI n) hx (keyOf_int_mk hk hwf) ?_
  intro c hc _
  have e := (h4 n hn).symm.trans hc
  have e' : p n = c := by simpa using e
  rw [← e']
  exact hK
theorem MapF.look_ok (h : MapF P k w B N keys p) (hg : o.guard = none) (m x : Operand) (hop : o.op = Op.lookup t m x true) (ht : P.underlying t = some (.map k k)) (hk : P.underlying k = some (.int .i64)) (hz : (zeroValue k).run P w = .ok (.int .i64 0) w)
    (hm : a.eval m = .map (some B)) (n : Int) (hx : a.eval x = .int .i64 n) (hwf : (Lit.int .i64 n).wf = true)
    (hy : keys n → wpList P ops Q rest (a.put o.dst (.tuple #[.int .i64 (p n), .bool true])) w) (hno : ¬ keys n → ∀ c, wpList P ops Q rest (a.put o.dst (.tuple #[.int .i64 c, .bool false])) w) : wpList P ops Q (o :: rest) a w := by
  obtain ⟨D, h1, h2, h3, h4⟩ := h
  refine wpList_lookup_own_ok_int w hg m x t hop k k .i64 (int_keyed hk) ht hk hz B _ D hm h1 (.int .i64 n) (keyI n) hx (keyOf_int_mk hk hwf) ?_
  intro c hc _
  by_cases hn : keys n
  · have e := (h4 n hn).symm.trans hc
    have e' : p n = c := by simpa using e
    rw [← e', (h3 n).2 hn]
    exact hy hn
  · have : Maps.has D (keyI n) = false := by
      rcases hh : Maps.has D (keyI n) with _ | _
      · rfl
      · exact absurd ((h3 n).1 hh) hn
    rw [this]
    exact hno hn c
theorem MapF.store (h : MapF P k w B N keys p) (hg : o.guard = none) (m x v : Operand) (hop : o.op = Op.mapUpdate t m x v) (ht : P.underlying t = some (.map k k)) (hk : P.underlying k = some (.int .i64))
    (hm : a.eval m = .map (some B)) (n y : Int) (hx : a.eval x = .int .i64 n) (hv : a.eval v = .int .i64 y) (hwf : (Lit.int .i64 n).wf = true) (hwy : (Lit.int .i64 y).wf = true) {M : Nat} (hM : (keys n ∧ N ≤ M) ∨ N + 1 ≤ M) (hN : N < maxLen)
    (hK : ∀ w', MapF P k w' B M (fun z => z = n ∨ keys z) (upd p n y) → w.grownBy w' (some B) → wpList P ops Q rest (a.put o.dst undef) w') : wpList P ops Q (o :: rest) a w := by
  obtain ⟨D, h1, h2, h3, h4⟩ := h
  refine wpList_mapUpdate_own w hg m x v t hop k k (int_keyed hk) ht (plainElem P k) B _ D hm h1 (Nat.lt_of_le_of_lt h2 hN) (.int .i64 n) (.int .i64 y) (keyI n) hx hv (keyOf_int_mk hk hwf) (.lit (.int .i64 y)) [] (plainElem_int hk hwy) ?_
  intro w' hw' hg'
  exact hK w' (MapF.put hk h1 h2 h3 h4 hM hw' ((int_keyed hk).key (keyOf_int_mk hk hwf))) hg'
end
end Go.Proofs.Mp
set_option linter.unusedVariables false
set_option linter.unusedSimpArgs false
namespace Go.Proofs
open Go.RowKit Go.Proofs.Mp Go.Proofs.Uf

theorem Try.zero3 (w : World) : (zeroValue 3).run Try.prog w = .ok (.int .i64 0) w := by kernel_rfl

def wfs (F : List Int) : Prop := ∀ x ∈ F, (Lit.int .i64 x).wf = true
/-- the captured cell leads to the map of parents, by which each feature's root is that of ρ -/
def GS (w : World) (g B N : Nat) (F : List Int) (ρ : Int → Int) : Prop := w.cell? ⟨g, 0, none⟩ = some (.map (some B)) ∧ g ≠ B ∧ ∃ p, MapF Try.prog 3 w B N (fun x => x ∈ F) p ∧ UF F p ρ

theorem wf_range {x : Int} (h : (Lit.int .i64 x).wf = true) : -9223372036854775808 ≤ x ∧ x ≤ 9223372036854775807 := by
  simp only [Lit.wf, Bool.and_eq_true, decide_eq_true_eq] at h
  exact h

theorem MapF.reF {w : World} {B N : Nat} {F : List Int} {x : Int} {p : Int → Int} (hx : x ∈ F) (h : MapF Try.prog 3 w B N (fun z => z = x ∨ z ∈ F) p) : MapF Try.prog 3 w B N (fun z => z ∈ F) p :=
  h.keys_iff fun z => by constructor; · rintro (rfl | h) <;> assumption
                         · exact .inr

theorem GS.block {w : World} {g B N : Nat} {F : List Int} {ρ : Int → Int} (h : GS w g B N F ρ) : g < w.heap.size ∧ B < w.heap.size := by
  obtain ⟨h1, _, p, h2, _⟩ := h
  exact ⟨World.block_lt_of_cell? w _ h1, h2.lt⟩

theorem cell_grown {w w' : World} {g B : Nat} {v : Value} (hg : w.grownBy w' (some B)) (hne : g ≠ B) (h : w.cell? ⟨g, 0, none⟩ = some v) : w'.cell? ⟨g, 0, none⟩ = some v := by
  have hlt : g < w.heap.size := World.block_lt_of_cell? w _ h
  have hb := hg.block g hlt (by simpa using hne)
  unfold World.cell? at h ⊢
  simp only at h ⊢
  rw [hb]; exact h

def FirstPost (w : World) (g B N : Nat) (F : List Int) (ρ : Int → Int) (x : Int) (e : Ending) (w' : World) : Prop := e = .returned (.int .i64 (ρ x)) ∧ GS w' g B N F ρ ∧ w.grownBy w' (some B)

set_option maxHeartbeats 1000000 in
theorem first_any (g B N : Nat) (F : List Int) (ρ : Int → Int) (hwf : wfs F) (hN : N ≤ 1000000) (x : Int) (hx : x ∈ F) (w : World) (hG : GS w g B N F ρ) :
    Calls Try.prog 46 #[.int .i64 x, .pointer (some ⟨g, 0, none⟩)] w (FirstPost w g B N F ρ x) := by
  have hNm : N < maxLen := by unfold maxLen; omega
  go_enter Try.func46, Try.ntmps46
  go_wp2_with fail
  go_loopw [0] (fun v wr => ∃ y, y ∈ F ∧ v = .int .i64 y ∧ ρ y = ρ x ∧ GS wr g B N F ρ ∧ w.grownBy wr (some B)) (fun v _ => (intOf v + 9223372036854775808).toNat)
  case atStart => exact ⟨x, hx, rfl, rfl, hG, World.grownBy.refl _ _⟩
  case round =>
    obtain ⟨y, hy, rfl, hρ, ⟨hc, hgB, p, hM, hU⟩, hgr⟩ := hrel
    have hpy := (hU.1 y hy).1
    have hppy := (hU.1 _ hpy).1
    by_cases he : p y = y
    · have hr := hU.here hy he
      go_wp2_with (at_lookup; refine MapF.look hM rfl _ _ rfl Try.underlying51 Try.underlying3 (Try.zero3 _) rfl _ rfl (hwf _ hy) hy ?_; rw [he])
      go_ret
      exact ⟨by rw [← hρ, hr]; rfl, ⟨hc, hgB, p, hM, hU⟩, hgr⟩
    · have hlow := wf_range (hwf _ hppy)
      have hle1 := (hU.1 y hy).2
      have hle2 := (hU.1 _ hpy).2
      have hlt : p (p y) < y := by omega
      have hU' := hU.halve hy
      have hρ' : ρ (p (p y)) = ρ x := by rw [hU.up hpy, hU.up hy, hρ]
      obtain ⟨z, hz⟩ : ∃ z, p (p y) = z := ⟨_, rfl⟩
      rw [hz] at hppy hlow hlt hU' hρ'
      obtain ⟨q, hq⟩ : ∃ q, p y = q := ⟨_, rfl⟩
      have hneq : (q != y) = true := by rw [← hq]; simpa using he
      rw [hq] at hpy hz
      have HQ := Lib.hid hq
      have HZ := Lib.hid hz
      have hup : Hid (upd p y z y = z) := Lib.hid (upd_same p y z)
      clear hq hz he hle1 hle2
      go_wp2_with (first
        | (at_lookup; refine MapF.look hM rfl _ _ rfl Try.underlying51 Try.underlying3 (Try.zero3 _) rfl y rfl (hwf _ hy) hy ?_; rw [HQ.out])
        | (at_lookup; refine MapF.look hM rfl _ _ rfl Try.underlying51 Try.underlying3 (Try.zero3 _) rfl q rfl (hwf _ hpy) hpy ?_; rw [HZ.out])
        | (at_mapUpdate; refine MapF.store hM rfl _ _ _ rfl Try.underlying51 Try.underlying3 rfl y z rfl rfl (hwf _ hy) (hwf _ hppy) (.inl ⟨hy, Nat.le_refl _⟩) hNm ?_; intro w1 hM1 hg1; replace hM1 := MapF.reF hy hM1; have hc1 : w1.cell? ⟨g, 0, none⟩ = some (.map (some B)) := cell_grown hg1 hgB hc)
        | (at_lookup; refine MapF.look hM1 rfl _ _ rfl Try.underlying51 Try.underlying3 (Try.zero3 _) rfl y rfl (hwf _ hy) hy ?_; rw [hup.out]))
      go_roundw
      case rel => exact ⟨z, hppy, rfl, hρ', ⟨hc1, hgB, _, hM1, hU'⟩, hgr.trans hg1⟩
      case measure => simp [intOf]; omega
end Go.Proofs
set_option linter.unusedVariables false
set_option linter.unusedSimpArgs false
namespace Go.Proofs
open Go.RowKit Go.Proofs.Mp Go.Proofs.Uf

/-- a row of the call's own that lies in no block of av -/
def Mp.OwnA {α : Type} (e k : Nat) (enc : α → List Value) (w : World) (base : Nat) (av : Nat → Prop) (v : Value) (xs : List α) : Prop :=
  Own e k enc w base v xs ∧ ∀ j, v.ownBlock = some j → ¬ av j

section
variable {α : Type} {e k : Nat} {enc : α → List Value} {w w' : World} {base : Nat} {av : Nat → Prop} {v : Value} {xs : List α}
theorem Mp.OwnA.lt (h : OwnA e k enc w base av v xs) {j : Nat} (hj : v.ownBlock = some j) : base ≤ j ∧ j < w.heap.size := World.ownsRow.lt h.1 j hj
theorem Mp.OwnA.kept (h : OwnA e k enc w base av v xs) {row : Option Nat} (hg : w.grownBy w' row) (hne : v.ownBlock = none ∨ v.ownBlock ≠ row) : OwnA e k enc w' base av v xs :=
  ⟨World.ownsRow.kept h.1 hg hne, h.2⟩
theorem Mp.OwnA.alloc (h : OwnA e k enc w base av v xs) (o : Obj) : OwnA e k enc (w.alloc o) base av v xs := ⟨h.1.alloc o, h.2⟩
theorem Mp.OwnA.weak (h : OwnA e k enc w base av v xs) {av' : Nat → Prop} (hav : ∀ j, v.ownBlock = some j → ¬ av' j) : OwnA e k enc w base av' v xs := ⟨h.1, hav⟩
theorem Mp.OwnA.nil (w : World) (base : Nat) (av : Nat → Prop) : OwnA e k enc w base av (.slice none 0 0) [] := ⟨Own.nil w base, fun j hj => by cases hj⟩

/-- append(out, x): where the new row lies is told -/
theorem Mp.OwnA.append1 {P : Program} {ops : Array Oper} {rest : List Oper} {o : Oper} {a : Act} {Q : Exit → Act → World → Prop} (t : TypeId) (i : TypeInfo) (z : Value) (bytes : Nat)
    (ht : P.underlying t = some (.slice e)) (hi : P.info? e = some i) (hz : i.zero = some z)
    (hsize : i.size = k) (hby : i.bytes = bytes) (hzs : z.cells.size = k) (hsz : 0 < k) (hbpos : 0 < bytes)
    (hk : ∀ x, (enc x).length = k) (y : α) (h1 : ∀ u ∈ enc y, u.oneCell' = true) (hgd : o.guard = none) (s x : Operand)
    (ho : o.op = .call { callee := .builtin .append, args := #[s, x], argTypes := #[t, t] })
    (hown : OwnA e k enc w base av v xs) (hav : ∀ j, av j → j < w.heap.size) (hs : a.eval s = v) (hx : a.eval x = .slice (some ⟨w.heap.size, 0, none⟩) 1 1)
    (hbytes : (xs.length + 1) * bytes ≤ 140737488355328) (hbase : base ≤ w.heap.size)
    (h : ∀ v' w', OwnA e k enc w' base av v' (xs ++ [y]) → w.grownBy w' v.ownBlock → (v'.ownBlock = v.ownBlock ∨ ∃ j, v'.ownBlock = some j ∧ w.heap.size ≤ j) → wpList P ops Q rest (a.put o.dst v') w') :
    wpList P ops Q (o :: rest) a (w.alloc (.cells (enc y).toArray e)) := by
  have hle : xs.length + 1 ≤ (xs.length + 1) * bytes := Nat.le_mul_of_pos_right _ hbpos
  have hadd : ∀ j, (⟨w.heap.size, 0, none⟩ : Addr).add j = ⟨w.heap.size, j, none⟩ := fun j => by
    unfold Addr.add
    split
    · simp_all
    · simp
  refine wpList_append_own_at _ hgd s x t ho base e i z k bytes ht hi hz hsize hby hzs hsz v xs.length (xs.flatMap enc) hs (hown.1.alloc _) ⟨w.heap.size, 0, none⟩ 1 1 (enc y) hx (by simp [hk]) ?_ h1
    (by unfold maxLen; omega) hbytes (by simp; omega) ?_
  · intro j u hu
    rw [hadd, cell_of_row _ w.heap.size j _ e (0, 0) (heap_alloc_new w _)]
    simpa using hu
  · intro v' w' hown' hg _ hloc
    have hg' : w.grownBy w' v.ownBlock := (World.grownBy_alloc w _ _).trans hg
    refine h v' w' ⟨?_, ?_⟩ hg' ?_
    · unfold Own
      simpa using hown'
    · intro j hj hj'
      rcases hloc with hl | hl
      · exact hown.2 j (hl ▸ hj) hj'
      · rw [hl] at hj
        injection hj with hj
        have := hav j hj'
        simp at hj
        omega
    · rcases hloc with hl | hl
      · exact .inl hl
      · exact .inr ⟨_, hl, by simp⟩
end

def encV (v : Value) : List Value := [v]
theorem encV_len (v : Value) : (encV v).length = 1 := rfl

/-- rows of the call's own in a row of the call's own, no two in one block -/
def Mp.Nest (te ti : TypeId) (w : World) (base : Nat) (av : Nat → Prop) (vout : Value) (gs : List (List Int)) : Prop :=
  ∃ vs : List Value, vs.length = gs.length ∧ OwnA te 1 encV w base av vout vs ∧
    ∀ i, i < vs.length → OwnA ti 1 Mp.encI w base (fun j => av j ∨ vout.ownBlock = some j ∨ ∃ i', i' ≠ i ∧ i' < vs.length ∧ vs[i']!.ownBlock = some j) vs[i]! gs[i]!

section
variable {te ti : TypeId} {w w' : World} {base : Nat} {av : Nat → Prop} {vout : Value} {gs : List (List Int)}
theorem Mp.Nest.nil (w : World) (base : Nat) (av : Nat → Prop) : Nest te ti w base av (.slice none 0 0) [] := ⟨[], rfl, OwnA.nil w base av, fun i hi => by simp at hi⟩
theorem Mp.Nest.kept (h : Nest te ti w base av vout gs) {row : Option Nat} (hg : w.grownBy w' row) (hrow : ∀ j, row = some j → av j ∨ j < base) : Nest te ti w' base av vout gs := by
  obtain ⟨vs, h1, h2, h3⟩ := h
  have key : ∀ {u : Value} {av' : Nat → Prop}, (∀ j, u.ownBlock = some j → ¬ av j ∧ base ≤ j) → (u.ownBlock = none ∨ u.ownBlock ≠ row) := by
    intro u av' hu
    rcases ho : u.ownBlock with _ | j
    · exact .inl rfl
    · right
      intro e
      have := hu j ho
      rcases hrow j e.symm with h | h
      · exact this.1 h
      · omega
  refine ⟨vs, h1, h2.kept hg (key (av' := av) fun j hj => ⟨h2.2 j hj, (h2.lt hj).1⟩), fun i hi => (h3 i hi).kept hg (key (av' := av) fun j hj => ⟨fun h => (h3 i hi).2 j hj (.inl h), ((h3 i hi).lt hj).1⟩)⟩
theorem Mp.Nest.get (h : Nest te ti w base av vout gs) {i : Nat} (hi : i < gs.length) : ∃ g cap vi ni ci, vout = .slice (some ⟨g, 0, none⟩) gs.length cap ∧ gs.length ≤ cap ∧ base ≤ g ∧ vi = Value.slice ni gs[i]!.length ci ∧ w.cell? ⟨g, i, none⟩ = some vi ∧ w.frozen? ⟨g, i, none⟩ = false ∧ OwnA ti 1 Mp.encI w base (fun j => av j ∨ j = g) vi gs[i]! ∧
    ∀ v' w' x, OwnA ti 1 Mp.encI w' base (fun j => av j ∨ j = g) v' (gs[i]! ++ [x]) → w.grownBy w' vi.ownBlock → (v'.ownBlock = vi.ownBlock ∨ ∃ j, v'.ownBlock = some j ∧ w.heap.size ≤ j) →
      Nest te ti (w'.setCell ⟨g, i, none⟩ v') base av vout (gs.set i (gs[i]! ++ [x])) := by
  obtain ⟨vs, h1, h2, h3⟩ := h
  have hi' : i < vs.length := by omega
  obtain ⟨g, cap, rfl, hncap, hbg, hcell⟩ : ∃ g cap, vout = .slice (some ⟨g, 0, none⟩) vs.length cap ∧ vs.length ≤ cap ∧ base ≤ g ∧ w.cell? ⟨g, i, none⟩ = some vs[i]! := by
    have h20 := h2.1
    rcases h2.1.2 with ⟨_, h0⟩ | ⟨g, cap, cur, hv, hb, hh, hnc, _⟩
    · omega
    · refine ⟨g, cap, hv, hnc, hb, ?_⟩
      rw [hv] at h20
      have hR := Own.rd encV_len h20
      obtain ⟨b, off, he, _, hc⟩ := Rd.get hR (Below.refl _ _) hi'
      injection he with he
      injection he with e1 e2
      subst e1; subst e2
      simpa using hc i hi' 0 _ rfl
  have hii := h3 i hi'
  obtain ⟨A, c, hsl⟩ := Own.slice hii.1
  have hgb : ∀ j, j < vs.length → vs[j]!.ownBlock ≠ some g := fun j hj he => (h3 j hj).2 g he (.inr (.inl rfl))
  have hglt : g < w.heap.size := (h2.lt (j := g) rfl).2
  refine ⟨g, cap, vs[i]!, A, c, by rw [h1], by omega, hbg, hsl, hcell, World.ownsRow.frozenAt h2.1 i, hii.weak fun j hj hj' => ?_, ?_⟩
  · rcases hj' with h | rfl
    · exact hii.2 j hj (.inl h)
    · exact hgb i hi' hj
  · intro v' w' x hown' hg hloc
    have hgi : some g ≠ vs[i]!.ownBlock := fun e => hgb i hi' e.symm
    have ho : OwnA te 1 encV w' base av (.slice (some ⟨g, 0, none⟩) vs.length cap) vs := h2.kept hg (.inr hgi)
    obtain ⟨hst, hgs⟩ := World.ownsRow.stored ho.1 i v'
    have hv'g : v'.ownBlock ≠ some g := fun e => hown'.2 g e (.inr rfl)
    have hsz : w.heap.size ≤ w'.heap.size := hg.size
    have hget : ∀ j, j < vs.length → (vs.set i v')[j]! = if i = j then v' else vs[j]! := by
      intro j hj
      rw [getElem!_pos (vs.set i v') j (by simpa using hj), getElem!_pos vs j hj, List.getElem_set]
    have hgetg : ∀ j, j < gs.length → (gs.set i (gs[i]! ++ [x]))[j]! = if i = j then gs[i]! ++ [x] else gs[j]! := by
      intro j hj
      rw [getElem!_pos (gs.set i (gs[i]! ++ [x])) j (by simpa using hj), List.getElem_set]
      split
      · rfl
      · rw [getElem!_pos gs j hj]
    refine ⟨vs.set i v', by simp [h1], ⟨?_, ho.2⟩, fun j hj => ?_⟩
    · unfold Own
      have e : (vs.set i v').flatMap encV = (vs.flatMap encV).set i v' := by
        have key : ∀ l : List Value, l.flatMap encV = l := fun l => by induction l with
          | nil => rfl
          | cons y ys ih => rw [List.flatMap_cons, ih]; rfl
        rw [key, key]
      rw [e]
      simpa using hst
    · have hj' : j < vs.length := by simpa using hj
      rw [hget j hj', hgetg j (by omega)]
      by_cases hij : i = j
      · subst hij
        rw [if_pos rfl, if_pos rfl]
        refine ⟨ownsRow_setCell_other hown'.1 (by simpa using hv'g) _, fun m hm hm' => ?_⟩
        rcases hm' with h | h | ⟨i', h4, h5, h6⟩
        · exact hown'.2 m hm (.inl h)
        · exact hown'.2 m hm (.inr (by simpa [Value.ownBlock] using h.symm))
        · have h5' : i' < vs.length := by simpa using h5
          rw [hget i' h5', if_neg (Ne.symm h4)] at h6
          rcases hloc with hl | ⟨n, hl, hn⟩
          · rw [hl] at hm
            exact (h3 i hi').2 m hm (.inr (.inr ⟨i', h4, h5', h6⟩))
          · rw [hl] at hm
            injection hm with hm
            have := ((h3 i' h5').lt h6).2
            omega
      · rw [if_neg hij, if_neg hij]
        have hne : vs[j]!.ownBlock = none ∨ vs[j]!.ownBlock ≠ vs[i]!.ownBlock := by
          rcases hq : vs[j]!.ownBlock with _ | q
          · exact .inl rfl
          · right
            intro e
            exact (h3 j hj').2 q hq (.inr (.inr ⟨i, hij, hi', e.symm⟩))
        refine ⟨ownsRow_setCell_other ((h3 j hj').kept hg hne).1 (by simpa using hgb j hj') _, fun m hm hm' => ?_⟩
        rcases hm' with h | h | ⟨i', h4, h5, h6⟩
        · exact (h3 j hj').2 m hm (.inl h)
        · exact (h3 j hj').2 m hm (.inr (.inl h))
        · have h5' : i' < vs.length := by simpa using h5
          rw [hget i' h5'] at h6
          by_cases hii' : i = i'
          · rw [if_pos hii'] at h6
            rcases hloc with hl | ⟨n, hl, hn⟩
            · rw [hl] at h6
              exact (h3 j hj').2 m hm (.inr (.inr ⟨i, hij, hi', h6⟩))
            · rw [hl] at h6
              injection h6 with h6
              have := ((h3 j hj').lt hm).2
              omega
          · rw [if_neg hii'] at h6
            exact (h3 j hj').2 m hm (.inr (.inr ⟨i', h4, h5', h6⟩))

/-- append(out, nil) -/
theorem Mp.Nest.push {vs : List Value} (h1 : vs.length = gs.length) (h2 : OwnA te 1 encV w base av vout vs)
    (h3 : ∀ i, i < vs.length → OwnA ti 1 Mp.encI w base (fun j => av j ∨ vout.ownBlock = some j ∨ ∃ i', i' ≠ i ∧ i' < vs.length ∧ vs[i']!.ownBlock = some j) vs[i]! gs[i]!) {v' : Value} (hg : w.grownBy w' vout.ownBlock)
    (hloc : v'.ownBlock = vout.ownBlock ∨ ∃ j, v'.ownBlock = some j ∧ w.heap.size ≤ j) (hown : OwnA te 1 encV w' base av v' (vs ++ [.slice none 0 0])) : Nest te ti w' base av v' (gs ++ [[]]) := by
  have hget : ∀ (l : List Value) (u : Value) j, (l ++ [u])[j]! = if j < l.length then l[j]! else if j = l.length then u else default := by
    intro l u j
    by_cases hj : j < l.length
    · rw [if_pos hj, getElem!_pos (l ++ [u]) j (by simp; omega), getElem!_pos l j hj, List.getElem_append_left hj]
    · rw [if_neg hj]
      by_cases hj2 : j = l.length
      · subst hj2; simp
      · rw [if_neg hj2, getElem!_neg (l ++ [u]) j (by simp; omega)]
  have hgetg : ∀ (l : List (List Int)) j, (l ++ [[]])[j]! = if j < l.length then l[j]! else [] := by
    intro l j
    by_cases hj : j < l.length
    · rw [if_pos hj, getElem!_pos (l ++ [[]]) j (by simp; omega), getElem!_pos l j hj, List.getElem_append_left hj]
    · rw [if_neg hj]
      by_cases hj2 : j = l.length
      · subst hj2; simp
      · rw [getElem!_neg (l ++ [[]]) j (by simp; omega)]; rfl
  refine ⟨vs ++ [.slice none 0 0], by simp [h1], hown, fun i hi => ?_⟩
  simp only [List.length_append, List.length_singleton] at hi
  rw [hget, hgetg, ← h1]
  by_cases hil : i < vs.length
  · rw [if_pos hil, if_pos hil]
    have hne : vs[i]!.ownBlock = none ∨ vs[i]!.ownBlock ≠ vout.ownBlock := by
      rcases hq : vs[i]!.ownBlock with _ | q
      · exact .inl rfl
      · right
        intro e
        exact (h3 i hil).2 q hq (.inr (.inl e.symm))
    refine ((h3 i hil).kept hg hne).weak fun m hm hm' => ?_
    rcases hm' with h | h | ⟨i', h4, h5, h6⟩
    · exact (h3 i hil).2 m hm (.inl h)
    · rcases hloc with hl | ⟨n, hl, hn⟩
      · rw [hl] at h; exact (h3 i hil).2 m hm (.inr (.inl h))
      · rw [hl] at h
        injection h with h
        have := ((h3 i hil).lt hm).2
        omega
    · rw [hget] at h6
      split at h6
      · rename_i h7; exact (h3 i hil).2 m hm (.inr (.inr ⟨i', h4, h7, h6⟩))
      · split at h6
        · cases h6
        · cases h6
  · rw [if_neg hil, if_neg hil, if_pos (by omega)]
    exact OwnA.nil w' base _
end
end Go.Proofs
