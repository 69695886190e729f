/- RingTurns, walked: the two lists. -/
import Derived.Test.YtafaojmkbbhjmaaL1
import Derived.Test.YtafaojmkbbhjmaaP8
import Derived.Deep.RegionHeld3
set_option linter.unusedVariables false
set_option linter.unusedSimpArgs false
namespace Go.Proofs
open Go.RowKit Go.Proofs.Mp

theorem u8_in {k : Int} (h : (Lit.int .u8 k).wf = true) : 0 ≤ k ∧ k ≤ 255 := by
  simp [Lit.wf, IntKind.min, IntKind.max, IntKind.bits, IntKind.signed] at h
  omega
theorem Try.infoP : (Try.prog.info? 32).map (fun i => (i.zero, i.size, i.bytes)) = some (some (.agg #[.int .i64 0, .int .i64 0]), 2, 16) := by kernel_rfl
theorem Try.stepP {w : World} {base : Nat} {v : Value} {xs ys : List Pt} {ops : Array Oper} {o : Oper} {a : Act} {K : Act → World → Prop} {Q : Exit → Act → World → Prop} {E : Prop}
    (hown : OwnR 32 w base v xs) {A : Option Addr} {c : Nat} (hR : RdR w A ys) (hgd : o.guard = none) (s x : Operand)
    (ho : o.op = .call { callee := .builtin .append, args := #[s, x], argTypes := #[22, 22] }) (hs : a.eval s = v) (hx : a.eval x = .slice A ys.length c)
    (hN : xs.length + ys.length ≤ 1000000000) (hbase : base ≤ w.heap.size)
    (h : ∀ v' w', OwnR 32 w' base v' (xs ++ ys) → Below base w w' → K (a.put o.dst v') w') :
    if Region.wanted o (yielded ops a.tmps) = true then Oper.wp Try.prog o a w K Q else E := by
  have hw : Region.wanted o (yielded ops a.tmps) = true := by simp [Region.wanted, hgd]
  rw [if_pos hw]
  obtain ⟨i0, hi, hz0, hz1, hz2⟩ := Mp.info_parts Try.infoP
  exact Own.wpAll 22 i0 (.agg #[.int .i64 0, .int .i64 0]) 16 Try.underlying22 hi hz0 hz1 hz2 rfl (by decide) (by decide) encR_len encR_one s x ho hown hs hR hx (by omega) hbase h
theorem Try.appP {w : World} {base : Nat} {v : Value} {xs : List Pt} {ops : Array Oper} {rest : List Oper} {o : Oper} {a : Act} {Q : Exit → Act → World → Prop}
    (hown : OwnR 32 w base v xs) (lo hi : Int) (hgd : o.guard = none) (s x : Operand)
    (ho : o.op = .call { callee := .builtin .append, args := #[s, x], argTypes := #[22, 22] }) (hs : a.eval s = v) (hx : a.eval x = .slice (some ⟨w.heap.size, 0, none⟩) 1 1)
    (hN : xs.length + 1 ≤ 1000000000000) (hbase : base ≤ w.heap.size)
    (h : ∀ v' w', OwnR 32 w' base v' (xs ++ [(lo, hi)]) → Below base w w' → wpList Try.prog ops Q rest (a.put o.dst v') w') :
    wpList Try.prog ops Q (o :: rest) a (w.alloc (.cells #[.int .i64 lo, .int .i64 hi] 32)) := by
  obtain ⟨i0, hi0, hz0, hz1, hz2⟩ := Mp.info_parts Try.infoP
  exact Own.append1 22 i0 (.agg #[.int .i64 0, .int .i64 0]) 16 Try.underlying22 hi0 hz0 hz1 hz2 rfl (by decide) (by decide) encR_len encR_one hgd s x ho hown hs (lo, hi) hx (by omega) hbase h
theorem Try.neq32 (x1 x2 : Int) (W : World) : (binOp .neq 32 (.agg #[.int .i64 x1, .int .i64 x2]) (.agg #[.int .i64 x1, .int .i64 x2])).run Try.prog W = .ok (.bool false) W := by
  have u3 := Try.underlying3
  have a3 := Try.isAgg3
  have z3 := Try.sizeOf3
  have hS : Try.prog.underlying 32 = some (.struct (Try.prog.fieldsOf 32)) := by kernel_rfl
  have hp : Try.prog.stoodInHeld 32 = false := by kernel_rfl
  rw [run_neq_struct, show (10000 : Nat) = 9999 + 1 from rfl, run_equalIn_agg W 9999 32 _ _ hS hp]
  simp only [Program.fieldsOf, Try.underlying32]
  go_simp
theorem twN_bound {l : List Pt} (h : l.length ≤ 24) : -52776558133248 ≤ twN l ∧ twN l ≤ 52776558133248 := by
  unfold twN
  split
  · rename_i h0
    have := twTo_bound (polyE_zero h0).1 l.length (Nat.le_refl _)
    omega
  · omega
theorem ownP_made (w : World) : OwnR 32 (w.alloc (.cells #[] 32)) w.heap.size (.slice (some ⟨w.heap.size, 0, none⟩) 0 0) [] := World.ownsRow_made w #[] 0 (Nat.le_refl _) (Nat.zero_le _) rfl
theorem rdP_drop {w : World} {b off : Nat} {xs : List Pt} (h : RdR w (some ⟨b, off, none⟩) xs) (n : Nat) : RdR w (some ⟨b, off + n * 2, none⟩) (xs.drop n) := by
  by_cases hn : xs = []
  · exact .inl (by simp [hn])
  · have := Rd.drop h hn n
    unfold Addr.add at this
    split at this
    · rename_i h0
      rw [h0]
      exact this
    · exact this

theorem rdP_take {w : World} {A : Option Addr} {xs : List Pt} (h : RdR w A xs) (n : Nat) : RdR w A (xs.take n) := by
  rcases h with rfl | ⟨b, off, e, hb, hc⟩
  · exact .inl (by simp)
  · refine .inr ⟨b, off, e, hb, fun j hj i u hu => ?_⟩
    have hj' : j < xs.length := by simp at hj; omega
    refine hc j hj' i u ?_
    have e2 : (xs.take n)[j]! = xs[j]! := by
      rw [getElem!_pos _ j hj, getElem!_pos xs j hj', List.getElem_take]
    rw [e2] at hu
    exact hu

set_option maxRecDepth 100000 in
set_option maxHeartbeats 4000000 in
theorem law_turns (A : Option Addr) (c : Nat) (l : List Pt) (k : Int) (p : Pt) (w : World) (hmax : l.length ≤ 9223372036854775807) (hc : l.length ≤ c) (hR : RdR w A l) (hk : (Lit.int .u8 k).wf = true) :
    Calls Try.prog 7 #[.slice A l.length c, .int .u8 k, aggP p] w (RetV w (.bool true)) := by
  have cA := Lib.hid law_awake
  obtain ⟨x, y⟩ := p
  unfold aggP
  dsimp only
  by_cases h0 : l.length = 0
  · have hd : decide ((l.length : Int) = 0) = true := decide_eq_true (by omega)
    have H := Lib.hid (And.intro hR hk)
    obtain rfl : l = [] := List.eq_nil_of_length_eq_zero h0
    clear hR hk h0 hd hmax
    go_enter Try.func7, Try.ntmps7
    go_wp2_with fail
    refine (cA.out _).mono ?_
    rintro e w1 ⟨rfl, hb⟩
    have hb2 := below_lit hb
    go_wp2
    go_ret
    exact RetV.bool rfl hb2
  have cL := Lib.hid fun W (hb : Below w.heap.size w W) => law_low A c l W hmax (hR.below hb)
  have hpos : 0 < l.length := by omega
  have hd : ¬ (l.length : Int) = 0 := by omega
  have hw0 := bw1 w (.cells #[.int .i64 x, .int .i64 y] 32)
  by_cases hlow : lowB l = true
  rotate_left
  · rw [Bool.not_eq_true] at hlow
    rw [hlow] at cL
    have H := Lib.hid hR
    have HW := Lib.hid hw0
    clear hlow hR hw0
    go_enter Try.func7, Try.ntmps7
    go_wp2_with fail
    refine (cL.out _ HW.out).mono ?_
    rintro e w1 ⟨rfl, hb1⟩
    have k1 := HW.out.trans (hb1.mono HW.out.size)
    clear hb1
    go_wp2_with fail
    refine (cA.out _).mono ?_
    rintro e w2 ⟨rfl, hb2⟩
    go_wp2
    go_ret
    exact RetV.bool rfl (k1.trans (hb2.mono k1.size))
  rw [hlow] at cL
  have hlen : l.length ≤ 24 := by
    unfold lowB at hlow
    rw [decide_eq_true_eq] at hlow
    exact hlow.1
  obtain ⟨g1, g2⟩ := u8_in hk
  have tb := twN_bound hlen
  have hneg : IntKind.i64.wrap (-twN l) = -twN l := IntWalk.i64_in _ (by omega)
  have hN := fun a b W => Try.neq32 a b W
  have hG := Try.guard32
  clear tb
  have HW := Lib.hid hw0
  obtain ⟨b, off, rfl⟩ : ∃ b off, A = some ⟨b, off, none⟩ := by
    rcases hR with e | ⟨b, off, e, _⟩
    · rw [e] at hpos; simp at hpos
    · exact ⟨b, off, e⟩
  have HR := Lib.hid hR
  have cM := Lib.hid fun (A' : Option Addr) (c' : Nat) (l' : List Pt) (W : World) (hr : RdR W A' l') (hs : Same l' l) => (show Calls Try.prog 18 #[.slice A' l.length c'] W (RetV W (.tuple #[aggP (midP l), .bool (midR l).isSome])) by
    have := ring_middle A' c' l' W (by rw [hs.len]; omega) hr
    rw [hs.midp hpos, hs.midr hpos, hs.len] at this
    exact this)
  have cC := Lib.hid fun (A' : Option Addr) (c' : Nat) (l' : List Pt) (W : World) (hr : RdR W A' l') (hs : Same l' l) => (show Calls Try.prog 11 #[.slice A' l.length c'] W (RetV W (.int .i64 (chkE l))) by
    have := ring_check A' c' l' W (by rw [hs.len]; omega) hr
    rw [hs.chk, hs.len] at this
    exact this)
  have cI := Lib.hid fun (A' : Option Addr) (c' : Nat) (l' : List Pt) (W : World) (hr : RdR W A' l') (hs : Same l' l) => (show Calls Try.prog 20 #[.slice A' l.length c', .agg #[.int .i64 x, .int .i64 y]] W (RetV W (.int .i64 (inN l (x, y)))) by
    have := ring_in A' c' l' (x, y) W (by rw [hs.len]; omega) hr
    rw [hs.inn, hs.len] at this
    exact this)
  have cT := Lib.hid fun (A' : Option Addr) (c' : Nat) (l' : List Pt) (t : Int) (W : World) (hr : RdR W A' l') (hs : Same l' l) (ht : twN l' = t) => (show Calls Try.prog 13 #[.slice A' l.length c'] W (RetV W (.int .i64 t)) by
    have := ring_twice A' c' l' W (by rw [hs.len]; omega) hr
    rw [hs.len, ht] at this
    exact this)
  clear hw0 hlow hk hR
  go_enter Try.func7, Try.ntmps7
  go_wp2_with fail
  refine (cL.out _ HW.out).mono ?_
  rintro e w1 ⟨rfl, hb1⟩
  have k1 := HW.out.trans (hb1.mono HW.out.size)
  have HB5 := Lib.hid fun W (hb : Below w1.heap.size w1 W) => box_at w W (.int .i64 x) (.int .i64 y) 32 ((hb1.trans (hb.mono hb1.size)).mono (by simp))
  clear hb1 HW cL
  have hm0 := Int.emod_nonneg k hd
  have hm1 := Int.emod_lt_of_pos k (show (0 : Int) < l.length by omega)
  go_upto_region 4 with fail
  obtain ⟨m, hm⟩ : ∃ m : Nat, k % (l.length : Int) = m := ⟨(k % (l.length : Int)).toNat, by omega⟩
  rw [hm] at hm0 hm1 ⊢
  have hml : m < l.length := by omega
  have hm2 : (m : Int) ≤ (l.length : Int) := by omega
  have hm3 : (m : Int) ≤ (c : Int) := by omega
  have hm4 : (l.length : Int) ≤ (c : Int) := by omega
  have hck : ¬ c = m := by omega
  clear hm hm1 g1 g2
  have hR1 := (HR.out.below k1).below (Below.refl w1.heap.size w1).drew
  have hO : OwnR 32 (w1.drew.alloc (.cells #[] 32)) w1.drew.heap.size (.slice (some ⟨w1.drew.heap.size, 0, none⟩) 0 0) [] := ownP_made w1.drew
  have hba : Below w1.drew.heap.size w1.drew (w1.drew.alloc (.cells #[] 32)) := (Below.refl _ _).alloc (Nat.le_refl _) _
  have hD : RdR (w1.drew.alloc (.cells #[] 32)) (some ⟨b, off + m * 2, none⟩) (l.drop m) := rdP_drop (hR1.below hba) m
  have hTk : RdR w1.drew (some ⟨b, off, none⟩) (l.take m) := rdP_take hR1 m
  have kd : Below w.heap.size w w1.drew := k1.drew
  have hld : (l.drop m).length = l.length - m := by simp
  have hlt : (l.take m).length = m := by simp; omega
  go_region_held3 (fun _ => True) (trivial)
    (first
      | (refine Try.stepP hO hD rfl _ _ rfl rfl (by rw [hld]; rfl) (by rw [hld]; simp; omega) (by simp) ?_; clear hO hD; intro v3 w3 hown3 hb3)
      | (refine Try.stepP hown3 (hTk.below (hba.trans hb3)) rfl _ _ rfl rfl (by rw [hlt]; rfl) (by rw [hlt]; simp; omega) (by have := hb3.size; simp at this ⊢; omega) ?_; clear hown3; intro v4 w4 hown4 hb4))
  have kb4 : Below w1.drew.heap.size w1.drew w4 := hba.trans (hb3.trans hb4)
  have k4 := kd.trans (kb4.mono kd.size)
  have HB4 := Lib.hid fun W (hb : Below w4.heap.size w4 W) => HB5.out W ((Below.refl w1.heap.size w1).drew.trans (kb4.trans (hb.mono kb4.size)))
  have HT4 := Lib.hid hown4
  clear hown4 hb3 hb4 hba hTk kd hR1 HB5 k1 kb4 hld hlt hm0 hm2 hm3 hm4 hck
  rw [List.nil_append] at HT4
  have HS := Lib.hid (same_rot l m)
  have HTW := Lib.hid (rot_twice l m)
  generalize l.drop m ++ l.take m = lt at *
  have HTB := Lib.hid (rev_twice l)
  have HSB := Lib.hid (same_rev l)
  have HSS : Hid (Same l l) := Lib.hid ⟨List.Perm.refl _, .inl (List.Perm.refl _)⟩
  have wl : IntKind.i64.wrap ((l.length : Int) - 1) = (l.length : Int) - 1 := IntWalk.i64_in _ (by omega)
  have hO2 : OwnR 32 (w4.alloc (.cells #[] 32)) w4.heap.size (.slice (some ⟨w4.heap.size, 0, none⟩) 0 0) [] := ownP_made w4
  have hba : Below w4.heap.size w4 (w4.alloc (.cells #[] 32)) := (Below.refl _ _).alloc (Nat.le_refl _) _
  have HK4 := Lib.hid k4
  clear k4
  go_wp2_with fail
  go_loopw [9, 10] (fun v9 v10 wr => ∃ r : Nat, r ≤ l.length ∧ v10 = .int .i64 ((r : Int) - 1) ∧ OwnR 32 wr w4.heap.size v9 (l.drop r).reverse ∧ Below w4.heap.size w4 wr) (fun _ v10 _ => (intOf v10 + 1).toNat)
  case atStart => exact ⟨l.length, by omega, rfl, by simpa using hO2, hba⟩
  case round =>
    obtain ⟨r, hr, rfl, hown, hbw⟩ := hrel
    rcases r with _ | q
    · rw [List.drop_zero] at hown
      obtain ⟨A8, c8, rfl⟩ := Own.slice HT4.out
      obtain ⟨A9, c9, rfl⟩ := Own.slice hown
      have hr8 := Own.rd encR_len HT4.out
      have hr9 := Own.rd encR_len hown
      rw [HS.out.len] at *
      rw [HSB.out.len] at *
      have R0 := Lib.hid fun W (hb : Below wr.heap.size wr W) => HR.out.below ((HK4.out.trans (hbw.mono HK4.out.size)).trans (hb.mono (HK4.out.trans (hbw.mono HK4.out.size)).size))
      have R8 := Lib.hid fun W (hb : Below wr.heap.size wr W) => hr8.below (hbw.trans (hb.mono hbw.size))
      have R9 := Lib.hid fun W (hb : Below wr.heap.size wr W) => hr9.below hb
      have RX := Lib.hid fun W (hb : Below wr.heap.size wr W) => HB4.out W (hbw.trans (hb.mono hbw.size))
      have RK := Lib.hid fun W (hb : Below wr.heap.size wr W) => (HK4.out.trans (hbw.mono HK4.out.size)).trans (hb.mono (HK4.out.trans (hbw.mono HK4.out.size)).size)
      clear hr8 hr9 hown hbw HT4 HR HK4 HB4
      generalize midP l = mp at *
      generalize (midR l).isSome = mz at *
      obtain ⟨mx, my⟩ := mp
      unfold aggP at cM
      generalize chkE l = ce at *
      generalize inN l (x, y) = ni at *
      obtain ⟨tt, hTT⟩ : ∃ tt, twN l = tt := ⟨_, rfl⟩
      rw [hTT] at HTW HTB hneg
      have HT0 := Lib.hid hTT
      clear hTT
      dsimp only at cM
      go_wp2_with fail
      refine (cM.out _ _ l _ (R0.out _ (Below.refl _ _)) HSS.out).mono ?_
      rintro e w5 ⟨rfl, hb5⟩
      have p1 := Lib.hid fun (W : World) (hb : Below (w5.alloc (.cells #[.int .i64 mx, .int .i64 my] 32)).heap.size (w5.alloc (.cells #[.int .i64 mx, .int .i64 my] 32)) W) => box_at w5 W (.int .i64 mx) (.int .i64 my) 32 (hb.mono (by simp))
      have e5 := Lib.hid (hb5.trans ((bw1 w5 (.cells #[.int .i64 mx, .int .i64 my] 32)).mono hb5.size))
      clear hb5
      go_upto_region 11 with fail
      generalize w5.alloc (.cells #[.int .i64 mx, .int .i64 my] 32) = x5 at *
      generalize w5.heap.size = n5 at *
      go_wp2_with fail
      refine (cM.out _ _ lt _ (R8.out _ e5.out) HS.out).mono ?_
      rintro e w6 ⟨rfl, hb6⟩
      have p2 := Lib.hid fun (W : World) (hb : Below (w6.alloc (.cells #[.int .i64 mx, .int .i64 my] 32)).heap.size (w6.alloc (.cells #[.int .i64 mx, .int .i64 my] 32)) W) => box_at w6 W (.int .i64 mx) (.int .i64 my) 32 (hb.mono (by simp))
      have e6 := Lib.hid (hb6.trans ((bw1 w6 (.cells #[.int .i64 mx, .int .i64 my] 32)).mono hb6.size))
      clear hb6
      go_upto_region 12 with fail
      generalize w6.alloc (.cells #[.int .i64 mx, .int .i64 my] 32) = x6 at *
      generalize w6.heap.size = n6 at *
      have f6 := Lib.hid (e5.out.trans (e6.out.mono e5.out.size))
      go_wp2_with fail
      refine (cM.out _ _ l.reverse _ (R9.out _ f6.out) HSB.out).mono ?_
      rintro e w7 ⟨rfl, hb7⟩
      have p3 := Lib.hid fun (W : World) (hb : Below (w7.alloc (.cells #[.int .i64 mx, .int .i64 my] 32)).heap.size (w7.alloc (.cells #[.int .i64 mx, .int .i64 my] 32)) W) => box_at w7 W (.int .i64 mx) (.int .i64 my) 32 (hb.mono (by simp))
      have e7 := Lib.hid (hb7.trans ((bw1 w7 (.cells #[.int .i64 mx, .int .i64 my] 32)).mono hb7.size))
      clear hb7
      go_upto_region 13 with fail
      generalize w7.alloc (.cells #[.int .i64 mx, .int .i64 my] 32) = x7 at *
      generalize w7.heap.size = n7 at *
      have f7 := f6.out.trans (e7.out.mono f6.out.size)
      have e67 := e6.out.trans (e7.out.mono e6.out.size)
      obtain ⟨a1, a2⟩ := p1.out _ e67
      obtain ⟨a3, a4⟩ := p2.out _ e7.out
      obtain ⟨a5, a6⟩ := p3.out _ (Below.refl _ _)
      clear p1 p2 p3 e5 e6 e7 f6 e67
      go_wp2_with fail
      refine (cC.out _ _ lt _ (R8.out _ f7) HS.out).mono ?_
      rintro e w8 ⟨rfl, hb8⟩
      replace f7 := f7.trans (hb8.mono f7.size)
      clear hb8 a1 a2 a3 a4 a5 a6
      go_wp2_with fail
      refine (cC.out _ _ l _ (R0.out _ f7) HSS.out).mono ?_
      rintro e w9 ⟨rfl, hb8⟩
      replace f7 := f7.trans (hb8.mono f7.size)
      clear hb8
      go_wp2_with fail
      refine (cC.out _ _ l.reverse _ (R9.out _ f7) HSB.out).mono ?_
      rintro e w10 ⟨rfl, hb8⟩
      replace f7 := f7.trans (hb8.mono f7.size)
      clear hb8
      go_wp2_with fail
      refine (cC.out _ _ l _ (R0.out _ f7) HSS.out).mono ?_
      rintro e w11 ⟨rfl, hb8⟩
      replace f7 := f7.trans (hb8.mono f7.size)
      clear hb8
      go_upto_region 15 with fail
      refine wp_region_held_drew (S := fun W : World => Below w11.drew.heap.size w11.drew W) (by kernel_rfl) (Below.refl _ _) (fun hHeld => ?_)
      clear hHeld
      have kd : Below wr.heap.size wr w11.drew := f7.drew
      clear f7
      generalize w11.drew = w0 at *
      have hS0 : (fun W : World => Below w0.heap.size w0 W) w0 := Below.refl _ _
      refine wpAnyH_ready (rs := [0]) (by kernel_rfl) (by simp) ?_
      refine AllReadyH.cons (o := ⟨some 102, _, _, _, _, _⟩) rfl (fun K hK => ?_) AllReadyH.nil
      go_simp
      go_at_call 10
      refine (cA.out _).mono ?_
      rintro e Wrh1 ⟨rfl, hbWrh1⟩
      have hSWrh1 := hS0.trans (hbWrh1.mono hS0.size)
      try clear hS0
      clear hbWrh1
      go_wp2_with fail
      refine hK.out _ _ hSWrh1 (fun hHeld => ?_)
      clear hK hHeld K
      try simp only [Act.put, List.setIfInBounds_toArray, List.set_cons_zero, List.set_cons_succ]
      refine wpAnyH_take (i := 1) (oi := ⟨some 103, _, _, _, _, _⟩) (v := ?vrh1) rfl (by kernel_rfl) (by kernel_rfl) (by kernel_rfl) (fun _ _ _ h => h) (Or.inl ⟨by kernel_rfl, ?hyrh1⟩) (by assumption) ?restrh1
      case hyrh1 => (intro W hSw; (try dsimp only at hSw); go_simp; try with_reducible rfl)
      case' restrh1 => try simp only [Act.put, List.setIfInBounds_toArray, List.set_cons_zero, List.set_cons_succ]
      refine wpAnyH_take (i := 2) (oi := ⟨some 104, _, _, _, _, _⟩) (v := ?vrh2) rfl (by kernel_rfl) (by kernel_rfl) (by kernel_rfl) (fun _ _ _ h => h) (Or.inl ⟨by kernel_rfl, ?hyrh2⟩) (by assumption) ?restrh2
      case hyrh2 => (intro W hSw; (try dsimp only at hSw); go_simp; try with_reducible rfl)
      case' restrh2 => try simp only [Act.put, List.setIfInBounds_toArray, List.set_cons_zero, List.set_cons_succ]
      refine wpAnyH_take (i := 4) (oi := ⟨some 106, _, _, _, _, _⟩) (v := ?vrh3) rfl (by kernel_rfl) (by kernel_rfl) (by kernel_rfl) (fun _ _ _ h => h) (Or.inl ⟨by kernel_rfl, ?hyrh3⟩) (by assumption) ?restrh3
      case hyrh3 => (intro W hSw; (try dsimp only at hSw); go_simp; try with_reducible rfl)
      case' restrh3 => try simp only [Act.put, List.setIfInBounds_toArray, List.set_cons_zero, List.set_cons_succ]
      refine wpAnyH_ready (rs := [3]) (by kernel_rfl) (by simp) ?_
      refine AllReadyH.cons (o := ⟨some 105, _, _, _, _, _⟩) rfl (fun K hK => ?_) AllReadyH.nil
      go_simp
      go_at_call 13
      refine (cT.out _ _ lt _ _ (R8.out _ (kd.trans (hSWrh1.mono kd.size))) HS.out HTW.out).mono ?_
      rintro e Wrh2 ⟨rfl, hbWrh2⟩
      have hSWrh2 := hSWrh1.trans (hbWrh2.mono hSWrh1.size)
      try clear hSWrh1
      clear hbWrh2
      go_wp2_with fail
      refine hK.out _ _ hSWrh2 (fun hHeld => ?_)
      clear hK hHeld K
      try simp only [Act.put, List.setIfInBounds_toArray, List.set_cons_zero, List.set_cons_succ]
      refine wpAnyH_ready (rs := [5]) (by kernel_rfl) (by simp) ?_
      refine AllReadyH.cons (o := ⟨some 107, _, _, _, _, _⟩) rfl (fun K hK => ?_) AllReadyH.nil
      go_simp
      go_at_call 13
      refine (cT.out _ _ l _ _ (R0.out _ (kd.trans (hSWrh2.mono kd.size))) HSS.out HT0.out).mono ?_
      rintro e Wrh3 ⟨rfl, hbWrh3⟩
      have hSWrh3 := hSWrh2.trans (hbWrh3.mono hSWrh2.size)
      try clear hSWrh2
      clear hbWrh3
      go_wp2_with fail
      refine hK.out _ _ hSWrh3 (fun hHeld => ?_)
      clear hK hHeld K
      try simp only [Act.put, List.setIfInBounds_toArray, List.set_cons_zero, List.set_cons_succ]
      refine wpAnyH_take (i := 6) (oi := ⟨some 108, _, _, _, _, _⟩) (v := ?vrh4) rfl (by kernel_rfl) (by kernel_rfl) (by kernel_rfl) (fun _ _ _ h => h) (Or.inl ⟨by kernel_rfl, ?hyrh4⟩) (by assumption) ?restrh4
      case hyrh4 => (intro W hSw; (try dsimp only at hSw); go_simp; try with_reducible rfl)
      case' restrh4 => try simp only [Act.put, List.setIfInBounds_toArray, List.set_cons_zero, List.set_cons_succ]
      refine wpAnyH_take (i := 7) (oi := ⟨some 109, _, _, _, _, _⟩) (v := ?vrh5) rfl (by kernel_rfl) (by kernel_rfl) (by kernel_rfl) (fun _ _ _ h => h) (Or.inl ⟨by kernel_rfl, ?hyrh5⟩) (by assumption) ?restrh5
      case hyrh5 => (intro W hSw; (try dsimp only at hSw); go_simp; try with_reducible rfl)
      case' restrh5 => try simp only [Act.put, List.setIfInBounds_toArray, List.set_cons_zero, List.set_cons_succ]
      refine wpAnyH_take (i := 8) (oi := ⟨some 110, _, _, _, _, _⟩) (v := ?vrh6) rfl (by kernel_rfl) (by kernel_rfl) (by kernel_rfl) (fun _ _ _ h => h) (Or.inl ⟨by kernel_rfl, ?hyrh6⟩) (by assumption) ?restrh6
      case hyrh6 => (intro W hSw; (try dsimp only at hSw); go_simp; try with_reducible rfl)
      case' restrh6 => try simp only [Act.put, List.setIfInBounds_toArray, List.set_cons_zero, List.set_cons_succ]
      refine wpAnyH_take (i := 9) (oi := ⟨some 111, _, _, _, _, _⟩) (v := ?vrh7) rfl (by kernel_rfl) (by kernel_rfl) (by kernel_rfl) (fun _ _ _ h => h) (Or.inl ⟨by kernel_rfl, ?hyrh7⟩) (by assumption) ?restrh7
      case hyrh7 => (intro W hSw; (try dsimp only at hSw); go_simp; try with_reducible rfl)
      case' restrh7 => try simp only [Act.put, List.setIfInBounds_toArray, List.set_cons_zero, List.set_cons_succ]
      refine wpAnyH_take (i := 11) (oi := ⟨some 113, _, _, _, _, _⟩) (v := ?vrh8) rfl (by kernel_rfl) (by kernel_rfl) (by kernel_rfl) (fun _ _ _ h => h) (Or.inl ⟨by kernel_rfl, ?hyrh8⟩) (by assumption) ?restrh8
      case hyrh8 => (intro W hSw; (try dsimp only at hSw); go_simp; try with_reducible rfl)
      case' restrh8 => try simp only [Act.put, List.setIfInBounds_toArray, List.set_cons_zero, List.set_cons_succ]
      refine wpAnyH_ready (rs := [10]) (by kernel_rfl) (by simp) ?_
      refine AllReadyH.cons (o := ⟨some 112, _, _, _, _, _⟩) rfl (fun K hK => ?_) AllReadyH.nil
      go_simp
      go_at_call 13
      refine (cT.out _ _ l.reverse _ _ (R9.out _ (kd.trans (hSWrh3.mono kd.size))) HSB.out HTB.out).mono ?_
      rintro e Wrh4 ⟨rfl, hbWrh4⟩
      have hSWrh4 := hSWrh3.trans (hbWrh4.mono hSWrh3.size)
      try clear hSWrh3
      clear hbWrh4
      go_wp2_with fail
      refine hK.out _ _ hSWrh4 (fun hHeld => ?_)
      clear hK hHeld K
      try simp only [Act.put, List.setIfInBounds_toArray, List.set_cons_zero, List.set_cons_succ]
      refine wpAnyH_ready (rs := [12]) (by kernel_rfl) (by simp) ?_
      refine AllReadyH.cons (o := ⟨some 114, _, _, _, _, _⟩) rfl (fun K hK => ?_) AllReadyH.nil
      go_simp
      go_at_call 13
      refine (cT.out _ _ l _ _ (R0.out _ (kd.trans (hSWrh4.mono kd.size))) HSS.out HT0.out).mono ?_
      rintro e Wrh5 ⟨rfl, hbWrh5⟩
      have hSWrh5 := hSWrh4.trans (hbWrh5.mono hSWrh4.size)
      try clear hSWrh4
      clear hbWrh5
      go_wp2_with fail
      refine hK.out _ _ hSWrh5 (fun hHeld => ?_)
      clear hK hHeld K
      try simp only [Act.put, List.setIfInBounds_toArray, List.set_cons_zero, List.set_cons_succ]
      refine wpAnyH_take (i := 13) (oi := ⟨some 115, _, _, _, _, _⟩) (v := ?vrh9) rfl (by kernel_rfl) (by kernel_rfl) (by kernel_rfl) (fun _ _ _ h => h) (Or.inl ⟨by kernel_rfl, ?hyrh9⟩) (by assumption) ?restrh9
      case hyrh9 => (intro W hSw; (try dsimp only at hSw); go_simp; try with_reducible rfl)
      case' restrh9 => try simp only [Act.put, List.setIfInBounds_toArray, List.set_cons_zero, List.set_cons_succ]
      refine wpAnyH_take (i := 14) (oi := ⟨some 116, _, _, _, _, _⟩) (v := ?vrh10) rfl (by kernel_rfl) (by kernel_rfl) (by kernel_rfl) (fun _ _ _ h => h) (Or.inl ⟨by kernel_rfl, ?hyrh10⟩) (by assumption) ?restrh10
      case hyrh10 => (intro W hSw; (try dsimp only at hSw); go_simp; try with_reducible rfl)
      case' restrh10 => try simp only [Act.put, List.setIfInBounds_toArray, List.set_cons_zero, List.set_cons_succ]
      refine wpAnyH_take (i := 15) (oi := ⟨some 117, _, _, _, _, _⟩) (v := ?vrh11) rfl (by kernel_rfl) (by kernel_rfl) (by kernel_rfl) (fun _ _ _ h => h) (Or.inl ⟨by kernel_rfl, ?hyrh11⟩) (by assumption) ?restrh11
      case hyrh11 => (intro W hSw; (try dsimp only at hSw); go_simp; try with_reducible rfl)
      case' restrh11 => try simp only [Act.put, List.setIfInBounds_toArray, List.set_cons_zero, List.set_cons_succ]
      refine wpAnyH_take (i := 16) (oi := ⟨some 118, _, _, _, _, _⟩) (v := ?vrh12) rfl (by kernel_rfl) (by kernel_rfl) (by kernel_rfl) (fun _ _ _ h => h) (Or.inl ⟨by kernel_rfl, ?hyrh12⟩) (by assumption) ?restrh12
      case hyrh12 => (intro W hSw; (try dsimp only at hSw); go_simp; try with_reducible rfl)
      case' restrh12 => try simp only [Act.put, List.setIfInBounds_toArray, List.set_cons_zero, List.set_cons_succ]
      refine wpAnyH_take (i := 17) (oi := ⟨some 119, _, _, _, _, _⟩) (v := ?vrh13) rfl (by kernel_rfl) (by kernel_rfl) (by kernel_rfl) (fun _ _ _ h => h) (Or.inl ⟨by kernel_rfl, ?hyrh13⟩) (by assumption) ?restrh13
      case hyrh13 => (intro W hSw; (try dsimp only at hSw); go_simp; try with_reducible rfl)
      case' restrh13 => try simp only [Act.put, List.setIfInBounds_toArray, List.set_cons_zero, List.set_cons_succ]
      refine wpAnyH_take (i := 18) (oi := ⟨some 120, _, _, _, _, _⟩) (v := ?vrh14) rfl (by kernel_rfl) (by kernel_rfl) (by kernel_rfl) (fun _ _ _ h => h) (Or.inl ⟨by kernel_rfl, ?hyrh14⟩) (by assumption) ?restrh14
      case hyrh14 => (intro W hSw; obtain ⟨k1, k2⟩ := RX.out W (kd.trans (hSw.mono kd.size)); clear hSw; (try dsimp only at hSw); go_simp; try with_reducible rfl)
      case' restrh14 => try simp only [Act.put, List.setIfInBounds_toArray, List.set_cons_zero, List.set_cons_succ]
      refine wpAnyH_take (i := 20) (oi := ⟨some 122, _, _, _, _, _⟩) (v := ?vrh15) rfl (by kernel_rfl) (by kernel_rfl) (by kernel_rfl) (fun _ _ _ h => h) (Or.inl ⟨by kernel_rfl, ?hyrh15⟩) (by assumption) ?restrh15
      case hyrh15 => (intro W hSw; (try dsimp only at hSw); go_simp; try with_reducible rfl)
      case' restrh15 => try simp only [Act.put, List.setIfInBounds_toArray, List.set_cons_zero, List.set_cons_succ]
      refine wpAnyH_take (i := 21) (oi := ⟨some 123, _, _, _, _, _⟩) (v := ?vrh16) rfl (by kernel_rfl) (by kernel_rfl) (by kernel_rfl) (fun _ _ _ h => h) (Or.inl ⟨by kernel_rfl, ?hyrh16⟩) (by assumption) ?restrh16
      case hyrh16 => (intro W hSw; obtain ⟨k1, k2⟩ := RX.out W (kd.trans (hSw.mono kd.size)); clear hSw; (try dsimp only at hSw); go_simp; try with_reducible rfl)
      case' restrh16 => try simp only [Act.put, List.setIfInBounds_toArray, List.set_cons_zero, List.set_cons_succ]
      refine wpAnyH_ready (rs := [19]) (by kernel_rfl) (by simp) ?_
      refine AllReadyH.cons (o := ⟨some 121, _, _, _, _, _⟩) rfl (fun K hK => ?_) AllReadyH.nil
      go_simp
      go_at_call 20
      refine (cI.out _ _ lt _ (R8.out _ (kd.trans (hSWrh5.mono kd.size))) HS.out).mono ?_
      rintro e Wrh6 ⟨rfl, hbWrh6⟩
      have hSWrh6 := hSWrh5.trans (hbWrh6.mono hSWrh5.size)
      try clear hSWrh5
      clear hbWrh6
      go_wp2_with fail
      refine hK.out _ _ hSWrh6 (fun hHeld => ?_)
      clear hK hHeld K
      try simp only [Act.put, List.setIfInBounds_toArray, List.set_cons_zero, List.set_cons_succ]
      refine wpAnyH_ready (rs := [22]) (by kernel_rfl) (by simp) ?_
      refine AllReadyH.cons (o := ⟨some 124, _, _, _, _, _⟩) rfl (fun K hK => ?_) AllReadyH.nil
      go_simp
      go_at_call 20
      refine (cI.out _ _ l _ (R0.out _ (kd.trans (hSWrh6.mono kd.size))) HSS.out).mono ?_
      rintro e Wrh7 ⟨rfl, hbWrh7⟩
      have hSWrh7 := hSWrh6.trans (hbWrh7.mono hSWrh6.size)
      try clear hSWrh6
      clear hbWrh7
      go_wp2_with fail
      refine hK.out _ _ hSWrh7 (fun hHeld => ?_)
      clear hK hHeld K
      try simp only [Act.put, List.setIfInBounds_toArray, List.set_cons_zero, List.set_cons_succ]
      refine wpAnyH_take (i := 23) (oi := ⟨some 125, _, _, _, _, _⟩) (v := ?vrh17) rfl (by kernel_rfl) (by kernel_rfl) (by kernel_rfl) (fun _ _ _ h => h) (Or.inl ⟨by kernel_rfl, ?hyrh17⟩) (by assumption) ?restrh17
      case hyrh17 => (intro W hSw; (try dsimp only at hSw); go_simp; try with_reducible rfl)
      case' restrh17 => try simp only [Act.put, List.setIfInBounds_toArray, List.set_cons_zero, List.set_cons_succ]
      refine wpAnyH_take (i := 24) (oi := ⟨some 126, _, _, _, _, _⟩) (v := ?vrh18) rfl (by kernel_rfl) (by kernel_rfl) (by kernel_rfl) (fun _ _ _ h => h) (Or.inl ⟨by kernel_rfl, ?hyrh18⟩) (by assumption) ?restrh18
      case hyrh18 => (intro W hSw; (try dsimp only at hSw); go_simp; try with_reducible rfl)
      case' restrh18 => try simp only [Act.put, List.setIfInBounds_toArray, List.set_cons_zero, List.set_cons_succ]
      refine wpAnyH_take (i := 25) (oi := ⟨some 127, _, _, _, _, _⟩) (v := ?vrh19) rfl (by kernel_rfl) (by kernel_rfl) (by kernel_rfl) (fun _ _ _ h => h) (Or.inl ⟨by kernel_rfl, ?hyrh19⟩) (by assumption) ?restrh19
      case hyrh19 => (intro W hSw; (try dsimp only at hSw); go_simp; try with_reducible rfl)
      case' restrh19 => try simp only [Act.put, List.setIfInBounds_toArray, List.set_cons_zero, List.set_cons_succ]
      refine wpAnyH_take (i := 26) (oi := ⟨some 128, _, _, _, _, _⟩) (v := ?vrh20) rfl (by kernel_rfl) (by kernel_rfl) (by kernel_rfl) (fun _ _ _ h => h) (Or.inl ⟨by kernel_rfl, ?hyrh20⟩) (by assumption) ?restrh20
      case hyrh20 => (intro W hSw; (try dsimp only at hSw); go_simp; try with_reducible rfl)
      case' restrh20 => try simp only [Act.put, List.setIfInBounds_toArray, List.set_cons_zero, List.set_cons_succ]
      refine wpAnyH_take (i := 27) (oi := ⟨some 129, _, _, _, _, _⟩) (v := ?vrh21) rfl (by kernel_rfl) (by kernel_rfl) (by kernel_rfl) (fun _ _ _ h => h) (Or.inl ⟨by kernel_rfl, ?hyrh21⟩) (by assumption) ?restrh21
      case hyrh21 => (intro W hSw; obtain ⟨k1, k2⟩ := RX.out W (kd.trans (hSw.mono kd.size)); clear hSw; (try dsimp only at hSw); go_simp; try with_reducible rfl)
      case' restrh21 => try simp only [Act.put, List.setIfInBounds_toArray, List.set_cons_zero, List.set_cons_succ]
      refine wpAnyH_take (i := 29) (oi := ⟨some 131, _, _, _, _, _⟩) (v := ?vrh22) rfl (by kernel_rfl) (by kernel_rfl) (by kernel_rfl) (fun _ _ _ h => h) (Or.inl ⟨by kernel_rfl, ?hyrh22⟩) (by assumption) ?restrh22
      case hyrh22 => (intro W hSw; (try dsimp only at hSw); go_simp; try with_reducible rfl)
      case' restrh22 => try simp only [Act.put, List.setIfInBounds_toArray, List.set_cons_zero, List.set_cons_succ]
      refine wpAnyH_take (i := 30) (oi := ⟨some 132, _, _, _, _, _⟩) (v := ?vrh23) rfl (by kernel_rfl) (by kernel_rfl) (by kernel_rfl) (fun _ _ _ h => h) (Or.inl ⟨by kernel_rfl, ?hyrh23⟩) (by assumption) ?restrh23
      case hyrh23 => (intro W hSw; obtain ⟨k1, k2⟩ := RX.out W (kd.trans (hSw.mono kd.size)); clear hSw; (try dsimp only at hSw); go_simp; try with_reducible rfl)
      case' restrh23 => try simp only [Act.put, List.setIfInBounds_toArray, List.set_cons_zero, List.set_cons_succ]
      refine wpAnyH_ready (rs := [28]) (by kernel_rfl) (by simp) ?_
      refine AllReadyH.cons (o := ⟨some 130, _, _, _, _, _⟩) rfl (fun K hK => ?_) AllReadyH.nil
      go_simp
      go_at_call 20
      refine (cI.out _ _ l.reverse _ (R9.out _ (kd.trans (hSWrh7.mono kd.size))) HSB.out).mono ?_
      rintro e Wrh8 ⟨rfl, hbWrh8⟩
      have hSWrh8 := hSWrh7.trans (hbWrh8.mono hSWrh7.size)
      try clear hSWrh7
      clear hbWrh8
      go_wp2_with fail
      refine hK.out _ _ hSWrh8 (fun hHeld => ?_)
      clear hK hHeld K
      try simp only [Act.put, List.setIfInBounds_toArray, List.set_cons_zero, List.set_cons_succ]
      refine wpAnyH_ready (rs := [31]) (by kernel_rfl) (by simp) ?_
      refine AllReadyH.cons (o := ⟨some 133, _, _, _, _, _⟩) rfl (fun K hK => ?_) AllReadyH.nil
      go_simp
      go_at_call 20
      refine (cI.out _ _ l _ (R0.out _ (kd.trans (hSWrh8.mono kd.size))) HSS.out).mono ?_
      rintro e Wrh9 ⟨rfl, hbWrh9⟩
      have hSWrh9 := hSWrh8.trans (hbWrh9.mono hSWrh8.size)
      try clear hSWrh8
      clear hbWrh9
      go_wp2_with fail
      refine hK.out _ _ hSWrh9 (fun hHeld => ?_)
      clear hK hHeld K
      try simp only [Act.put, List.setIfInBounds_toArray, List.set_cons_zero, List.set_cons_succ]
      refine wpAnyH_take (i := 32) (oi := ⟨some 134, _, _, _, _, _⟩) (v := ?vrh24) rfl (by kernel_rfl) (by kernel_rfl) (by kernel_rfl) (fun _ _ _ h => h) (Or.inl ⟨by kernel_rfl, ?hyrh24⟩) (by assumption) ?restrh24
      case hyrh24 => (intro W hSw; (try dsimp only at hSw); go_simp; try with_reducible rfl)
      case' restrh24 => try simp only [Act.put, List.setIfInBounds_toArray, List.set_cons_zero, List.set_cons_succ]
      refine wpAnyH_take (i := 33) (oi := ⟨some 135, _, _, _, _, _⟩) (v := ?vrh25) rfl (by kernel_rfl) (by kernel_rfl) (by kernel_rfl) (fun _ _ _ h => h) (Or.inl ⟨by kernel_rfl, ?hyrh25⟩) (by assumption) ?restrh25
      case hyrh25 => (intro W hSw; (try dsimp only at hSw); go_simp; try with_reducible rfl)
      case' restrh25 => try simp only [Act.put, List.setIfInBounds_toArray, List.set_cons_zero, List.set_cons_succ]
      refine wpAnyH_take (i := 34) (oi := ⟨some 6, _, _, _, _, _⟩) (v := ?vrh26) rfl (by kernel_rfl) (by kernel_rfl) (by kernel_rfl) (fun _ _ _ h => h) (Or.inl ⟨by kernel_rfl, ?hyrh26⟩) (by assumption) ?restrh26
      case hyrh26 => (intro W hSw; (try dsimp only at hSw); go_simp; try with_reducible rfl)
      case' restrh26 => try simp only [Act.put, List.setIfInBounds_toArray, List.set_cons_zero, List.set_cons_succ]
      refine wpAnyH_done (by kernel_rfl) ?_ _
      go_wp2
      go_ret
      exact RetV.bool (by simp) (RK.out _ (kd.trans (hSWrh9.mono kd.size)))
    · have hq : ((q + 1 : Nat) : Int) - 1 = (q : Int) := by omega
      have hql : q < l.length := by omega
      rw [hq]
      obtain ⟨c1, c2⟩ : wr.cell? ⟨b, off + q * 2, none⟩ = some (.int .i64 l[q]!.1) ∧ wr.cell? ⟨b, off + q * 2 + 1, none⟩ = some (.int .i64 l[q]!.2) := by
        obtain ⟨b', off', e, _, h1, h2⟩ := RdR.get HR.out (HK4.out.trans (hbw.mono HK4.out.size)) hql
        injection e with e
        injection e with e1 e2 _
        subst e1; subst e2
        exact ⟨h1, h2⟩
      have hq0 : (0 : Int) ≤ (q : Int) := by omega
      have hq1 : (q : Int) < (l.length : Int) := by omega
      have hne : (l.drop q).reverse = (l.drop (q + 1)).reverse ++ [(l[q]!.1, l[q]!.2)] := by
        rw [← List.reverse_cons]
        congr 1
        rw [List.drop_eq_getElem_cons hql, getElem!_pos l q hql]
      have hsz : (l.drop (q + 1)).reverse.length ≤ 24 := by simp; omega
      have hbs := hbw.size
      have HN := Lib.hid hne
      clear hne
      go_wp2_with (at_builtin; refine Try.appP hown _ _ rfl _ _ rfl rfl rfl (by omega) hbs ?_; clear hown; intro v2 w2 hown2 hb2)
      go_roundw
      case rel => exact ⟨q, by omega, rfl, by rw [HN.out, getElem!_pos l q hql]; exact hown2, hbw.trans hb2⟩
      case measure => simp [intOf]
end Go.Proofs
