import Derived.Test.YtpcpffljcadnkaaT7
import Derived.Test.YtpcpffljcadnkaaP1
set_option linter.unusedVariables false
set_option linter.unusedSimpArgs false
namespace Go.Proofs
open Go.RowKit Go.Proofs.Mp

theorem bs_any (A : Option Addr) (c : Nat) (ys : List Int) (x : Int) (w : World) (hmax : ys.length ≤ 1000000000000) (hR : RdI w A ys) (hs : ys.Pairwise (· ≤ ·)) :
    Calls Try.prog 29 #[.slice A ys.length c, .int .i64 x] w fun e w' => ∃ n : Int, e = .returned (.tuple #[.int .i64 n, .bool (decide (x ∈ ys))]) ∧ Below w.heap.size w w' := by
  rcases hR with rfl | ⟨b, off, rfl, hb, hc⟩
  · exact (Try.slices_BinarySearch_int_empty A c x w).mono fun e w' ⟨he, hw⟩ => by subst hw; exact ⟨0, by rw [he]; simp, Below.refl _ _⟩
  · exact (Try.slices_BinarySearch_int b off ys.length c ys x w (Nat.le_refl _) (by omega) (fun j hj => by
      have := hc j hj 0 _ rfl
      simpa [List.getD, hj] using this) (by rw [List.take_length]; exact hs)).mono fun e w' ⟨he, q, hw⟩ => by
        subst hw
        rw [List.take_length] at he
        exact ⟨((ys.countP (· < x) : Nat) : Int), by rw [he]; simp, below_drewN (Below.refl _ _) _⟩

/-- the closure of Inter -/
theorem closure28 (A : Option Addr) (c B : Nat) (ys : List Int) (w : World) (hmax : ys.length ≤ 1000000000000) (hB : B < w.heap.size) (hcell : w.cell? ⟨B, 0, none⟩ = some (.slice A ys.length c)) (hR : RdI w A ys) (hs : ys.Pairwise (· ≤ ·))
    (x : Int) (W : World) (hb : Below w.heap.size w W) : Calls Try.prog 28 #[.int .i64 x, .pointer (some ⟨B, 0, none⟩)] W (RetV W (.bool (decide (x ∈ ys)))) := by
  have hc : W.cell? ⟨B, 0, none⟩ = some (.slice A ys.length c) := (hb.cell (p := ⟨B, 0, none⟩) hB).trans hcell
  have cB := bs_any A c ys x W hmax (hR.below hb) hs
  clear hcell hR hs
  generalize decide (x ∈ ys) = r at *
  go_enter Try.func28, Try.ntmps28
  go_wp2_with fail
  refine cB.mono ?_
  rintro e w1 ⟨n, rfl, hb1⟩
  go_wp2
  go_ret
  exact RetV.bool rfl hb1

/-- the closure of Minus -/
theorem closure30 (A : Option Addr) (c B : Nat) (ys : List Int) (w : World) (hmax : ys.length ≤ 1000000000000) (hB : B < w.heap.size) (hcell : w.cell? ⟨B, 0, none⟩ = some (.slice A ys.length c)) (hR : RdI w A ys) (hs : ys.Pairwise (· ≤ ·))
    (x : Int) (W : World) (hb : Below w.heap.size w W) : Calls Try.prog 30 #[.int .i64 x, .pointer (some ⟨B, 0, none⟩)] W (RetV W (.bool (!decide (x ∈ ys)))) := by
  have hc : W.cell? ⟨B, 0, none⟩ = some (.slice A ys.length c) := (hb.cell (p := ⟨B, 0, none⟩) hB).trans hcell
  have cB := bs_any A c ys x W hmax (hR.below hb) hs
  clear hcell hR hs
  generalize decide (x ∈ ys) = r at *
  go_enter Try.func30, Try.ntmps30
  go_wp2_with fail
  refine cB.mono ?_
  rintro e w1 ⟨n, rfl, hb1⟩
  go_wp2
  go_ret
  exact RetV.bool rfl hb1

theorem Try.appI {w : World} {base : Nat} {v : Value} {xs : List Int} {ops : Array Oper} {rest : List Oper} {o : Oper} {a : Act} {Q : Exit → Act → World → Prop}
    (hown : OwnI 3 w base v xs) (y : Int) (hgd : o.guard = none) (s x : Operand)
    (ho : o.op = .call { callee := .builtin .append, args := #[s, x], argTypes := #[22, 22] }) (hs : a.eval s = v) (hx : a.eval x = .slice (some ⟨w.heap.size, 0, none⟩) 1 1)
    (hN : xs.length + 1 ≤ 1000000000000) (hbase : base ≤ w.heap.size)
    (h : ∀ v' w', OwnI 3 w' base v' (xs ++ [y]) → Below base w w' → wpList Try.prog ops Q rest (a.put o.dst v') w') :
    wpList Try.prog ops Q (o :: rest) a (w.alloc (.cells #[.int .i64 y] 3)) := by
  obtain ⟨i0, hi, hz0, hz1, hz2⟩ := Mp.info_parts Try.infoI
  exact Own.append1 22 i0 (.int .i64 0) 8 Try.underlying22 hi hz0 hz1 hz2 rfl (by decide) (by decide) encI_len encI_one hgd s x ho hown hs y hx (by omega) hbase h

theorem filter_take_succ (p : Int → Bool) (l : List Int) (k : Nat) (h : k < l.length) : (l.take (k + 1)).filter p = (l.take k).filter p ++ (if p l[k]! then [l[k]!] else []) := by
  rw [List.take_succ_eq_append_getElem h, List.filter_append]
  congr 1
  simp [h, List.filter_cons]

set_option maxHeartbeats 1000000 in
theorem choose28 (A : Option Addr) (c B : Nat) (p : Int → Bool) (zs : List Int) (w : World) (hmax : zs.length ≤ 1000000000) (hR : RdI w A zs)
    (hcl : ∀ (x : Int) (W : World), Below w.heap.size w W → Calls Try.prog 28 #[.int .i64 x, .pointer (some ⟨B, 0, none⟩)] W (RetV W (.bool (p x)))) :
    Calls Try.prog 27 #[.slice A zs.length c, .func (.func 28) #[] #[.pointer (some ⟨B, 0, none⟩)]] w (RetRc 1 Mp.encI w ((setL zs).filter p)) := by
  have hb0 : Below w.heap.size w (w.alloc (.cells #[.slice A zs.length c] 22)) := (Below.refl _ _).alloc (Nat.le_refl _) _
  have cC := collect_any (some ⟨w.heap.size, 0, none⟩) 1 [(A, c, zs)] (w.alloc (.cells #[.slice A zs.length c] 22)) (by simp) (by simp [sumL]; omega)
    (rd_lit encSl_len w _ 22 [(A, c, zs)] rfl) (fun s hs => by simp at hs; subst hs; exact hR.below hb0)
  have e1 : catL [(A, c, zs)] = zs := by simp [catL]
  rw [e1] at cC
  simp only [List.length_cons, List.length_nil, Nat.zero_add] at cC
  have hsl := setL_len zs
  generalize setL zs = st at *
  have HC := Lib.hid hcl
  clear hcl
  go_enter Try.func27, Try.ntmps27
  go_wp2_with fail
  refine cC.mono ?_
  rintro e w1 ⟨v1, rfl, hh1, hb1⟩
  have k1 := hb0.trans (hb1.mono hb0.size)
  clear hb1 cC
  obtain ⟨A1, c1, rfl⟩ : ∃ A1 c1, v1 = .slice A1 st.length c1 := by
    rcases hh1 with ⟨A, c, rfl, rfl⟩ | ⟨g, c, rfl, _⟩
    · exact ⟨A, c, rfl⟩
    · exact ⟨_, c, rfl⟩
  have hR1 := (held_rd hh1).2
  clear hh1
  go_wp2_with fail
  go_loopw [4, 11] (fun v i wr => ∃ k : Nat, k ≤ st.length ∧ i = .int .i64 k ∧ OwnI 3 wr w1.heap.size v ((st.take k).filter p) ∧ Below w1.heap.size w1 wr) (fun _ i _ => st.length - (intOf i).toNat)
  case atStart => exact ⟨0, by omega, rfl, Own.nil _ _, Below.refl _ _⟩
  case round =>
    obtain ⟨k, hk, rfl, hown, hb1w⟩ := hrel
    have hbw := k1.trans (hb1w.mono k1.size)
    by_cases hlt : k < st.length
    · obtain ⟨b, off, rfl, hb, g1⟩ := RdI.get hR1 hb1w hlt
      have HX := Lib.hid (filter_take_succ p st k hlt)
      have hle : ((st.take k).filter p).length ≤ st.length := Nat.le_trans (List.length_filter_le _ _) (by simp; omega)
      generalize st[k]! = x at *
      generalize (st.take k).filter p = xs at *
      have cP := HC.out x wr hbw
      have hbs := hbw.size
      rcases hp : p x with _ | _
      · rw [hp] at cP
        have HP := Lib.hid hp
        clear hp
        go_wp2_with fail
        refine cP.mono ?_
        rintro e w2 ⟨rfl, hb2⟩
        go_wp2
        go_roundw
        case rel => exact ⟨k + 1, by omega, by go_num, by rw [HX.out, HP.out]; simpa using hown.below hb2, hb1w.trans (hb2.mono hb1w.size)⟩
        case measure => simp [intOf]; omega
      · rw [hp] at cP
        have HP := Lib.hid hp
        clear hp
        go_wp2_with fail
        refine cP.mono ?_
        rintro e w2 ⟨rfl, hb2⟩
        have hown2 := hown.below hb2
        have k2' := hb1w.trans (hb2.mono hb1w.size)
        have hs2 := k2'.size
        go_wp2_with (at_builtin; refine Try.appI hown2 x rfl _ _ rfl rfl rfl (by omega) (by omega) ?_; clear hown hown2; intro v3 w3 hown3 hb3)
        go_roundw
        case rel => exact ⟨k + 1, by omega, by go_num, by rw [HX.out, HP.out]; simpa using hown3, k2'.trans hb3⟩
        case measure => simp [intOf]; omega
    · obtain rfl : k = st.length := by omega
      simp only [List.take_length] at hown
      go_wp2
      go_ret
      exact HeldI.ret (own_held (hown.mono k1.size)) hbw

set_option maxHeartbeats 1000000 in
theorem choose30 (A : Option Addr) (c B : Nat) (p : Int → Bool) (zs : List Int) (w : World) (hmax : zs.length ≤ 1000000000) (hR : RdI w A zs)
    (hcl : ∀ (x : Int) (W : World), Below w.heap.size w W → Calls Try.prog 30 #[.int .i64 x, .pointer (some ⟨B, 0, none⟩)] W (RetV W (.bool (p x)))) :
    Calls Try.prog 27 #[.slice A zs.length c, .func (.func 30) #[] #[.pointer (some ⟨B, 0, none⟩)]] w (RetRc 1 Mp.encI w ((setL zs).filter p)) := by
  have hb0 : Below w.heap.size w (w.alloc (.cells #[.slice A zs.length c] 22)) := (Below.refl _ _).alloc (Nat.le_refl _) _
  have cC := collect_any (some ⟨w.heap.size, 0, none⟩) 1 [(A, c, zs)] (w.alloc (.cells #[.slice A zs.length c] 22)) (by simp) (by simp [sumL]; omega)
    (rd_lit encSl_len w _ 22 [(A, c, zs)] rfl) (fun s hs => by simp at hs; subst hs; exact hR.below hb0)
  have e1 : catL [(A, c, zs)] = zs := by simp [catL]
  rw [e1] at cC
  simp only [List.length_cons, List.length_nil, Nat.zero_add] at cC
  have hsl := setL_len zs
  generalize setL zs = st at *
  have HC := Lib.hid hcl
  clear hcl
  go_enter Try.func27, Try.ntmps27
  go_wp2_with fail
  refine cC.mono ?_
  rintro e w1 ⟨v1, rfl, hh1, hb1⟩
  have k1 := hb0.trans (hb1.mono hb0.size)
  clear hb1 cC
  obtain ⟨A1, c1, rfl⟩ : ∃ A1 c1, v1 = .slice A1 st.length c1 := by
    rcases hh1 with ⟨A, c, rfl, rfl⟩ | ⟨g, c, rfl, _⟩
    · exact ⟨A, c, rfl⟩
    · exact ⟨_, c, rfl⟩
  have hR1 := (held_rd hh1).2
  clear hh1
  go_wp2_with fail
  go_loopw [4, 11] (fun v i wr => ∃ k : Nat, k ≤ st.length ∧ i = .int .i64 k ∧ OwnI 3 wr w1.heap.size v ((st.take k).filter p) ∧ Below w1.heap.size w1 wr) (fun _ i _ => st.length - (intOf i).toNat)
  case atStart => exact ⟨0, by omega, rfl, Own.nil _ _, Below.refl _ _⟩
  case round =>
    obtain ⟨k, hk, rfl, hown, hb1w⟩ := hrel
    have hbw := k1.trans (hb1w.mono k1.size)
    by_cases hlt : k < st.length
    · obtain ⟨b, off, rfl, hb, g1⟩ := RdI.get hR1 hb1w hlt
      have HX := Lib.hid (filter_take_succ p st k hlt)
      have hle : ((st.take k).filter p).length ≤ st.length := Nat.le_trans (List.length_filter_le _ _) (by simp; omega)
      generalize st[k]! = x at *
      generalize (st.take k).filter p = xs at *
      have cP := HC.out x wr hbw
      have hbs := hbw.size
      rcases hp : p x with _ | _
      · rw [hp] at cP
        have HP := Lib.hid hp
        clear hp
        go_wp2_with fail
        refine cP.mono ?_
        rintro e w2 ⟨rfl, hb2⟩
        go_wp2
        go_roundw
        case rel => exact ⟨k + 1, by omega, by go_num, by rw [HX.out, HP.out]; simpa using hown.below hb2, hb1w.trans (hb2.mono hb1w.size)⟩
        case measure => simp [intOf]; omega
      · rw [hp] at cP
        have HP := Lib.hid hp
        clear hp
        go_wp2_with fail
        refine cP.mono ?_
        rintro e w2 ⟨rfl, hb2⟩
        have hown2 := hown.below hb2
        have k2' := hb1w.trans (hb2.mono hb1w.size)
        have hs2 := k2'.size
        go_wp2_with (at_builtin; refine Try.appI hown2 x rfl _ _ rfl rfl rfl (by omega) (by omega) ?_; clear hown hown2; intro v3 w3 hown3 hb3)
        go_roundw
        case rel => exact ⟨k + 1, by omega, by go_num, by rw [HX.out, HP.out]; simpa using hown3, k2'.trans hb3⟩
        case measure => simp [intOf]; omega
    · obtain rfl : k = st.length := by omega
      simp only [List.take_length] at hown
      go_wp2
      go_ret
      exact HeldI.ret (own_held (hown.mono k1.size)) hbw

set_option maxHeartbeats 1000000 in
theorem idset_inter_c (A B : Option Addr) (c d : Nat) (xs ys : List Int) (w : World) (h1 : xs.length ≤ 1000000000) (h2 : ys.length ≤ 1000000000000) (hA : RdI w A xs) (hB : RdI w B ys) :
    Calls Try.prog 20 #[.slice A xs.length c, .slice B ys.length d] w (RetRc 1 Mp.encI w ((setL xs).filter fun x => decide (x ∈ setL ys))) := by
  have hb0 : Below w.heap.size w (w.alloc (.cells #[.slice B ys.length d] 22)) := (Below.refl _ _).alloc (Nat.le_refl _) _
  have cC := collect_any (some ⟨w.heap.size, 0, none⟩) 1 [(B, d, ys)] (w.alloc (.cells #[.slice B ys.length d] 22)) (by simp) (by simpa [sumL] using h2)
    (rd_lit encSl_len w _ 22 [(B, d, ys)] rfl) (fun s hs => by simp at hs; subst hs; exact hB.below hb0)
  have e1 : catL [(B, d, ys)] = ys := by simp [catL]
  rw [e1] at cC
  simp only [List.length_cons, List.length_nil, Nat.zero_add] at cC
  have hsl := setL_len ys
  have hasc : (setL ys).Pairwise (· ≤ ·) := (setL_asc ys).imp (fun h => by omega)
  generalize setL ys = st at *
  have HC := Lib.hid (fun (W : World) (B1 : Option Addr) (c1 B0 : Nat) (hb : Below w.heap.size w W) (hB0 : B0 < W.heap.size) (hcell : W.cell? ⟨B0, 0, none⟩ = some (.slice B1 st.length c1)) (hR : RdI W B1 st) =>
    choose28 A c B0 (fun x => decide (x ∈ st)) xs W h1 (hA.below hb) (closure28 B1 c1 B0 st W (by omega) hB0 hcell hR hasc))
  generalize ((setL xs).filter fun x => decide (x ∈ st)) = res at *
  clear hasc hA hB
  go_enter Try.func20, Try.ntmps20
  go_wp2_with fail
  refine cC.mono ?_
  rintro e w1 ⟨v1, rfl, hh1, hb1⟩
  have k1 := hb0.trans (hb1.mono hb0.size)
  clear hb1 cC
  obtain ⟨A1, c1, rfl⟩ : ∃ A1 c1, v1 = .slice A1 st.length c1 := by
    rcases hh1 with ⟨A, c, rfl, rfl⟩ | ⟨g, c, rfl, _⟩
    · exact ⟨A, c, rfl⟩
    · exact ⟨_, c, rfl⟩
  have hR1 := (held_rd hh1).2
  clear hh1
  have hba : Below w1.heap.size w1 (w1.alloc (.cells #[.slice A1 st.length c1] 22)) := (Below.refl _ _).alloc (Nat.le_refl _) _
  have k2 := k1.trans (hba.mono k1.size)
  have cH := HC.out (w1.alloc (.cells #[.slice A1 st.length c1] 22)) A1 c1 w1.heap.size k2 (by simp) (by simp) (hR1.below hba)
  clear HC
  go_wp2_with fail
  refine cH.mono ?_
  rintro e w2 ⟨A2, c2, rfl, hc2, hR2, hb2⟩
  go_wp2
  go_ret
  exact ⟨A2, c2, rfl, hc2, hR2, k2.trans (hb2.mono k2.size)⟩
set_option maxHeartbeats 1000000 in
theorem idset_minus_c (A B : Option Addr) (c d : Nat) (xs ys : List Int) (w : World) (h1 : xs.length ≤ 1000000000) (h2 : ys.length ≤ 1000000000000) (hA : RdI w A xs) (hB : RdI w B ys) :
    Calls Try.prog 22 #[.slice A xs.length c, .slice B ys.length d] w (RetRc 1 Mp.encI w ((setL xs).filter fun x => !decide (x ∈ setL ys))) := by
  have hb0 : Below w.heap.size w (w.alloc (.cells #[.slice B ys.length d] 22)) := (Below.refl _ _).alloc (Nat.le_refl _) _
  have cC := collect_any (some ⟨w.heap.size, 0, none⟩) 1 [(B, d, ys)] (w.alloc (.cells #[.slice B ys.length d] 22)) (by simp) (by simpa [sumL] using h2)
    (rd_lit encSl_len w _ 22 [(B, d, ys)] rfl) (fun s hs => by simp at hs; subst hs; exact hB.below hb0)
  have e1 : catL [(B, d, ys)] = ys := by simp [catL]
  rw [e1] at cC
  simp only [List.length_cons, List.length_nil, Nat.zero_add] at cC
  have hsl := setL_len ys
  have hasc : (setL ys).Pairwise (· ≤ ·) := (setL_asc ys).imp (fun h => by omega)
  generalize setL ys = st at *
  have HC := Lib.hid (fun (W : World) (B1 : Option Addr) (c1 B0 : Nat) (hb : Below w.heap.size w W) (hB0 : B0 < W.heap.size) (hcell : W.cell? ⟨B0, 0, none⟩ = some (.slice B1 st.length c1)) (hR : RdI W B1 st) =>
    choose30 A c B0 (fun x => !decide (x ∈ st)) xs W h1 (hA.below hb) (closure30 B1 c1 B0 st W (by omega) hB0 hcell hR hasc))
  generalize ((setL xs).filter fun x => !decide (x ∈ st)) = res at *
  clear hasc hA hB
  go_enter Try.func22, Try.ntmps22
  go_wp2_with fail
  refine cC.mono ?_
  rintro e w1 ⟨v1, rfl, hh1, hb1⟩
  have k1 := hb0.trans (hb1.mono hb0.size)
  clear hb1 cC
  obtain ⟨A1, c1, rfl⟩ : ∃ A1 c1, v1 = .slice A1 st.length c1 := by
    rcases hh1 with ⟨A, c, rfl, rfl⟩ | ⟨g, c, rfl, _⟩
    · exact ⟨A, c, rfl⟩
    · exact ⟨_, c, rfl⟩
  have hR1 := (held_rd hh1).2
  clear hh1
  have hba : Below w1.heap.size w1 (w1.alloc (.cells #[.slice A1 st.length c1] 22)) := (Below.refl _ _).alloc (Nat.le_refl _) _
  have k2 := k1.trans (hba.mono k1.size)
  have cH := HC.out (w1.alloc (.cells #[.slice A1 st.length c1] 22)) A1 c1 w1.heap.size k2 (by simp) (by simp) (hR1.below hba)
  clear HC
  go_wp2_with fail
  refine cH.mono ?_
  rintro e w2 ⟨A2, c2, rfl, hc2, hR2, hb2⟩
  go_wp2
  go_ret
  exact ⟨A2, c2, rfl, hc2, hR2, k2.trans (hb2.mono k2.size)⟩
end Go.Proofs
