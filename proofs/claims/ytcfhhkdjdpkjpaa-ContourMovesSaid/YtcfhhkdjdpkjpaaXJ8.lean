/- A whole list of lines appended to another. -/
import Derived.Test.YtcfhhkdjdpkjpaaXV11
set_option linter.unusedVariables false
set_option linter.unusedSimpArgs false
namespace Go.Proofs
open Go.RowKit Go.Proofs.Mp

theorem Try.appLs {w : World} {base kb : Nat} {v vk : Value} {L K : List Ln} {ops : Array Oper} {rest : List Oper} {o : Oper} {a : Act} {Q : Exit → Act → World → Prop}
    (hown : LnR w base v L) (hk : LnR w kb vk K) (hkb : ∀ j, v.ownBlock = some j → j < kb) (hbk : base ≤ kb) (hgd : o.guard = none) (s x : Operand)
    (ho : o.op = .call { callee := .builtin .append, args := #[s, x], argTypes := #[32, 32] }) (hs : a.eval s = v) (hx : a.eval x = vk)
    (hN : L.length + K.length ≤ 1000000000) (hbase : base ≤ w.heap.size)
    (h : ∀ v' w', LnR w' base v' (L ++ K) → Below base w w' → wpList Try.prog ops Q rest (a.put o.dst v') w') :
    wpList Try.prog ops Q (o :: rest) a w := by
  obtain ⟨vs, h1, h2, h3⟩ := hown
  obtain ⟨ks, k1, k2, k3⟩ := hk
  obtain ⟨i0, hi, hz0, hz1, hz2⟩ := Mp.info_parts Try.infoLn
  obtain ⟨A, c, rfl⟩ := Own.slice k2
  have hR : Rd 2 encLn w A ks := Own.rd encLn_len k2
  have k3' : ∀ i, i < ks.length → LnAt w ks[i]! K[i]! (fun g => base ≤ g ∧ v.ownBlock ≠ some g) := fun i hi => by
    obtain ⟨g, cap, g1, g2, g3⟩ := k3 i hi
    exact ⟨g, cap, g1, ⟨by omega, fun e => by have := hkb _ e; omega⟩, g3⟩
  by_cases hn : ks = []
  · subst hn
    obtain rfl : K = [] := List.length_eq_zero_iff.1 (by simpa using k1.symm)
    simp only [List.length_nil] at hx
    obtain ⟨B, m, rfl, hm⟩ : ∃ B m, v = .slice B vs.length m ∧ vs.length ≤ m := by
      rcases h2.2 with ⟨rfl, h0⟩ | ⟨g, cap, cur, rfl, _, _, hnc, _⟩
      · exact ⟨none, 0, by rw [h0], by omega⟩
      · exact ⟨_, cap, rfl, hnc⟩
    have hr := run_append_zero (P := Try.prog) (w := w) 32 o.type 41 i0 Try.underlying32 hi B A vs.length m c hm
    refine wpList_plain hgd fun K' hK' => ?_
    unfold Oper.wp execOp
    simp only [ho, resolve, invoke, builtin, Sem.run_bind, Sem.run_pure, Result.andThen_ok, List.map_toArray, List.map_cons, List.map_nil, hs, hx, hr]
    exact hK' _ _ (h _ w (by rw [List.append_nil]; exact ⟨vs, h1, h2, h3⟩) (Below.refl _ _))
  · obtain ⟨ad, rfl, hc⟩ := Rd.flat encLn_len (by decide) hR hn
    refine wpList_append_own_at w hgd s x 32 ho base 41 i0 (.agg #[.int .i64 0, .slice none 0 0]) 2 32 Try.underlying32 hi hz0 hz1 hz2 rfl (by decide) v vs.length (vs.flatMap encLn) hs h2 ad ks.length c (ks.flatMap encLn) hx (flat_len encLn_len ks) hc ?_ (by unfold maxLen; omega) (by omega) hbase ?_
    · intro u hu
      obtain ⟨y, hy0, hy⟩ := List.mem_flatMap.1 hu
      obtain ⟨i, hi, rfl⟩ := List.mem_iff_getElem.1 hy0
      obtain ⟨g, cap, g1, _⟩ := k3 i hi
      rw [getElem!_pos ks i hi] at g1
      rw [g1] at hy
      simp only [encLn, List.mem_cons, List.not_mem_nil, or_false] at hy
      rcases hy with rfl | rfl <;> rfl
    · intro v' w' ho' hg _ hl
      have ho2 : Own 41 2 encLn w' base v' (vs ++ ks) := by
        unfold Own
        simpa using ho'
      exact h v' w' (LnR.more h1 h3 k1 k3' ho2 hg (hl.imp id fun e => ⟨_, e, Nat.le_refl _⟩)) ((Below.refl _ _).grown hg hbase (fun j hj => (World.ownsRow.lt h2 j hj).1))
end Go.Proofs
/- All. -/
set_option linter.unusedVariables false
set_option linter.unusedSimpArgs false
namespace Go.Proofs
open Go.RowKit Go.Proofs.Mp Go.Lib

/-- the lines of the first n levels from (q + 1) iv on -/
def lvlL (f : Int → List Ln) (q iv : Int) (n : Nat) : List Ln := (List.range n).flatMap fun j : Nat => f ((q + 1 + (j : Int)) * iv)
theorem lvlL_succ (f : Int → List Ln) (q iv : Int) (n : Nat) : lvlL f q iv (n + 1) = lvlL f q iv n ++ f ((q + 1 + (n : Int)) * iv) := by
  unfold lvlL
  rw [List.range_succ, List.flatMap_append]
  simp
def allN (t : Ht) (iv : Int) : Nat := (flo (hiV t.v) iv - flo (loV t.v) iv).toNat
def allL (t : Ht) (iv : Int) : List Ln := if chkH t = 0 ∧ 1 ≤ iv ∧ iv ≤ 10000 then lvlL (linesT t) (flo (loV t.v) iv) iv (allN t iv) else []
def allE (t : Ht) (iv : Int) : Int := if chkH t = 0 then (if 1 ≤ iv ∧ iv ≤ 10000 then 0 else 2) else chkH t
theorem linesT_len (t : Ht) (level : Int) : (linesT t level).length ≤ 12288 := by
  unfold linesT
  split
  · rename_i h0
    obtain ⟨a1, a2, a3, a4, a5, a6, _⟩ := (Grd.of h0).all
    unfold linesL
    refine Nat.le_trans (linesOf_len _ _ _) ?_
    unfold chainsL
    rw [List.length_map]
    refine Nat.le_trans (List.length_filter_le _ _) ?_
    rw [List.length_range]
    have : 3 * t.w.toNat * t.h.toNat = 3 * (t.w.toNat * t.h.toNat) := Nat.mul_assoc _ _ _
    omega
  · simp
theorem lvlL_len {f : Int → List Ln} (hf : ∀ l, (f l).length ≤ 12288) (q iv : Int) : ∀ n, (lvlL f q iv n).length ≤ 12288 * n
  | 0 => by simp [lvlL]
  | n + 1 => by
    rw [lvlL_succ, List.length_append]
    have := lvlL_len hf q iv n
    have := hf ((q + 1 + (n : Int)) * iv)
    omega
theorem lvl_test {q iv hi : Int} (h1 : 1 ≤ iv) {j n : Nat} (hn : n = (flo hi iv - q).toNat) (hj : j ≤ n) : (q + 1 + (j : Int)) * iv ≤ hi ↔ j < n := by
  obtain ⟨g1, g2⟩ := flo_spec (a := hi) (show 0 < iv by omega)
  constructor
  · intro h
    have : iv * (q + 1 + (j : Int)) < iv * (flo hi iv + 1) := by rw [Int.mul_comm]; omega
    have := Int.lt_of_mul_lt_mul_left this (by omega)
    omega
  · intro h
    have h2 : q + 1 + (j : Int) ≤ flo hi iv := by omega
    have : iv * (q + 1 + (j : Int)) ≤ iv * flo hi iv := Int.mul_le_mul_of_nonneg_left h2 (by omega)
    rw [Int.mul_comm]
    omega
theorem lvl_bound {q iv lo hi : Int} (h1 : 1 ≤ iv) (h2 : iv ≤ 10000) (hl : -10000 ≤ lo ∧ lo ≤ 10000) (hh : -10000 ≤ hi ∧ hi ≤ 10000) (hq : q = flo lo iv) {j n : Nat} (hn : n = (flo hi iv - q).toNat) (hj : j ≤ n) :
    -10000 ≤ q ∧ q ≤ 10000 ∧ n ≤ 20000 ∧ -20000 ≤ (q + 1 + (j : Int)) * iv ∧ (q + 1 + (j : Int)) * iv ≤ 30000 := by
  obtain ⟨g1, g2⟩ := flo_spec (a := hi) (show 0 < iv by omega)
  obtain ⟨k1, k2⟩ := flo_spec (a := lo) (show 0 < iv by omega)
  rw [← hq] at k1 k2
  generalize flo hi iv = fh at *
  have b1 : -10000 ≤ q := by
    refine Int.not_lt.1 fun h => ?_
    have : iv * (q + 1) ≤ iv * (-10000) := Int.mul_le_mul_of_nonneg_left (by omega) (by omega)
    have : iv * (-10000) ≤ 1 * (-10000) := by omega
    omega
  have b2 : q ≤ 10000 := by
    refine Int.not_lt.1 fun h => ?_
    have : iv * 10001 ≤ iv * q := Int.mul_le_mul_of_nonneg_left (by omega) (by omega)
    omega
  have b3 : fh ≤ 10000 := by
    refine Int.not_lt.1 fun h => ?_
    have : iv * 10001 ≤ iv * fh := Int.mul_le_mul_of_nonneg_left (by omega) (by omega)
    omega
  have e1 : iv * (q + 1) ≤ iv * (q + 1 + (j : Int)) := Int.mul_le_mul_of_nonneg_left (by omega) (by omega)
  have e3 : iv * (q + 1) = iv * q + iv := by rw [Int.mul_add, Int.mul_one]
  have e4 : iv * (q + 1 + (j : Int)) ≤ 30000 := by
    rcases Nat.eq_zero_or_pos n with h0 | h0
    · have : (j : Int) = 0 := by omega
      rw [this, Int.add_zero, e3]
      omega
    · have : iv * (q + 1 + (j : Int)) ≤ iv * (fh + 1) := Int.mul_le_mul_of_nonneg_left (by omega) (by omega)
      have : iv * (fh + 1) = iv * fh + iv := by rw [Int.mul_add, Int.mul_one]
      omega
  rw [Int.mul_comm (q + 1 + (j : Int))]
  refine ⟨b1, b2, by omega, by omega, e4⟩

set_option maxRecDepth 100000 in
set_option maxHeartbeats 16000000 in
theorem con_All (t : Ht) (iv : Int) (w : World) (hmax : t.v.length ≤ 1000000000000) (hR : RdI w t.a t.v) :
    Calls Try.prog 18 #[aggH t, .int .i64 iv] w (RetLE w (allL t iv) (allE t iv)) := by
  have hb0 : Below w.heap.size w (w.alloc (.cells (celH t) 26)) := bw1 _ _
  have hs0 : (w.alloc (.cells (celH t) 26)).heap.size = w.heap.size + 1 := by simp
  have hrow0 := RowH.new w t
  have cE := Lib.hid (ter_extent t (w.alloc (.cells (celH t) 26)) hmax (hR.below hb0))
  obtain ⟨r, hr⟩ : ∃ r, chkH t = r := ⟨_, rfl⟩
  by_cases h0 : r = 0
  rotate_left
  · have hL : allL t iv = [] := by unfold allL; rw [if_neg]; rintro ⟨h, _⟩; exact h0 (hr ▸ h)
    have hE : allE t iv = r := by unfold allE; rw [if_neg (by rw [hr]; exact h0), hr]
    rw [hL, hE]
    have hx1 : extA t = 0 := by unfold extA; rw [if_neg (by rw [hr]; exact h0)]
    have hx2 : extB t = 0 := by unfold extB; rw [if_neg (by rw [hr]; exact h0)]
    rw [hr, hx1, hx2] at cE
    clear hr hL hE hx1 hx2 hR
    obtain ⟨x, y, tw, th, st, A, cc, v⟩ := t
    unfold aggH celH at *
    dsimp only at *
    obtain ⟨r0, r1, r2, r3, r4, r5⟩ := hrow0.cells
    dsimp only at r0 r1 r2 r3 r4 r5
    go_enter Try.func18, Try.ntmps18
    go_upto_region 1 with fail
    generalize (w.alloc (.cells #[.int .i64 x, .int .i64 y, .int .i64 tw, .int .i64 th, .int .i64 st, .slice A v.length cc] 26)) = wA at *
    go_wp2_with fail
    refine cE.out.mono ?_
    rintro e w1 ⟨rfl, hb1⟩
    have HB1 := Lib.hid (hb0.trans (hb1.mono (by omega)))
    clear hrow0 hb0 hb1 cE r0 r1 r2 r3 r4 r5
    go_wp2
    go_ret2
    exact ⟨_, rfl, LnR.nil _ _, HB1.out⟩
  · subst h0
    have cL := Lib.hid fun (level : Int) (W' : World) (hb : Below w.heap.size w W') => con_lines t _ _ level W' (Grd.of hr) (hR.below hb)
    have HLT := Lib.hid (fun level => (show linesT t level = linesL t t.w.toNat t.h.toNat level by unfold linesT; rw [if_pos hr]))
    have hx1 : extA t = loV t.v := by unfold extA; rw [if_pos hr]
    have hx2 : extB t = hiV t.v := by unfold extB; rw [if_pos hr]
    rw [hr, hx1, hx2] at cE
    have HB := Lib.hid (show (-10000 ≤ loV t.v ∧ loV t.v ≤ 10000) ∧ (-10000 ≤ hiV t.v ∧ hiV t.v ≤ 10000) from by
      obtain ⟨a1, a2, a3, a4, a5, a6, _, _, _, _, a11⟩ := (Grd.of hr).all
      have hp : 0 < t.v.length := by rw [a5]; exact Nat.mul_pos (by omega) (by omega)
      obtain ⟨j1, g1, e1⟩ := minTo_att hp t.v.length (Nat.le_refl _)
      obtain ⟨j2, g2, e2⟩ := maxTo_att hp t.v.length (Nat.le_refl _)
      unfold loV hiV
      rw [e1, e2]
      exact ⟨a11 j1 (by omega), a11 j2 (by omega)⟩)
    have HALL := Lib.hid (show allL t iv = if 1 ≤ iv ∧ iv ≤ 10000 then lvlL (linesT t) (flo (loV t.v) iv) iv (flo (hiV t.v) iv - flo (loV t.v) iv).toNat else [] by unfold allL allN; simp only [hr, true_and])
    have HE := Lib.hid (show allE t iv = if 1 ≤ iv ∧ iv ≤ 10000 then 0 else 2 by unfold allE; rw [if_pos hr])
    have HLEN := Lib.hid (linesT_len t)
    clear hx1 hx2 hr hR
    generalize allL t iv = AL at *
    generalize allE t iv = AE at *
    generalize loV t.v = lo at *
    generalize hiV t.v = hi at *
    generalize linesT t = f at *
    obtain ⟨x, y, tw, th, st, A, cc, v⟩ := t
    unfold aggH celH at *
    dsimp only at *
    obtain ⟨r0, r1, r2, r3, r4, r5⟩ := hrow0.cells
    dsimp only at r0 r1 r2 r3 r4 r5
    go_enter Try.func18, Try.ntmps18
    go_upto_region 1 with fail
    generalize (w.alloc (.cells #[.int .i64 x, .int .i64 y, .int .i64 tw, .int .i64 th, .int .i64 st, .slice A v.length cc] 26)) = wA at *
    go_wp2_with fail
    refine cE.out.mono ?_
    rintro e w1 ⟨rfl, hb1⟩
    have HB1 := Lib.hid (hb0.trans (hb1.mono (by omega)))
    have hrow1 := hrow0.below hb1
    clear hrow0 hb0 hb1 cE r0 r1 r2 r3 r4 r5
    by_cases hiv : 1 ≤ iv ∧ iv ≤ 10000
    rotate_left
    · rw [if_neg hiv] at HALL HE
      by_cases h1 : iv < 1
      · clear hrow1
        go_wp2
        go_ret2
        exact ⟨_, by rw [HE.out]; rfl, by rw [HALL.out]; exact LnR.nil _ _, HB1.out⟩
      · have h2 : 10000 < iv := by omega
        clear hrow1
        go_wp2
        go_ret2
        exact ⟨_, by rw [HE.out]; rfl, by rw [HALL.out]; exact LnR.nil _ _, HB1.out⟩
    · rw [if_pos hiv] at HALL HE
      obtain ⟨v1, v2⟩ := hiv
      have hlo := HB.out.1
      obtain ⟨l1, l2⟩ := hlo
      have cF := Lib.hid (num_floor lo iv w1 (by omega) (by omega) (by omega))
      obtain ⟨N, hN⟩ : ∃ N, N = (flo hi iv - flo lo iv).toNat := ⟨_, rfl⟩
      rw [← hN] at HALL
      have HT := Lib.hid (fun j (hj : j ≤ N) => lvl_test (q := flo lo iv) (hi := hi) v1 hN hj)
      have HBD := Lib.hid (fun j (hj : j ≤ N) => lvl_bound v1 v2 HB.out.1 HB.out.2 rfl hN hj)
      clear hN HB
      generalize flo lo iv = q at *
      have h1 : ¬ iv < 1 := by omega
      have h2 : ¬ 10000 < iv := by omega
      go_wp2_with fail
      refine cF.out.mono ?_
      rintro e w2 ⟨rfl, hb2⟩
      have HB2 := Lib.hid (HB1.out.trans (hb2.mono HB1.out.size))
      have hrow2 := hrow1.below hb2
      obtain ⟨r0, r1, r2, r3, r4, r5⟩ := hrow2.cells
      dsimp only at r0 r1 r2 r3 r4 r5
      have cL2 := Lib.hid fun (level : Int) (W' : World) (hb : Below w.heap.size w W') => (by rw [HLT.out]; exact cL.out level W' hb : Calls Try.prog 28 #[.agg #[.int .i64 x, .int .i64 y, .int .i64 tw, .int .i64 th, .int .i64 st, .slice A v.length cc], .int .i64 level] W' (RetLn W' (f level)))
      obtain ⟨g, hg⟩ : ∃ g : Nat → Int, ∀ j, g j = (q + 1 + (j : Int)) * iv := ⟨_, fun _ => rfl⟩
      have HG0 : (q + 1) * iv = g 0 := by rw [hg]; simp
      have HGS := Lib.hid (fun j => (show g j + iv = g (j + 1) by rw [hg, hg, show (q + 1 + ((j + 1 : Nat) : Int)) = (q + 1 + (j : Int)) + 1 by omega, Int.add_mul (q + 1 + (j : Int)) 1 iv, Int.one_mul]))
      have HLV := Lib.hid (fun n => (show lvlL f q iv (n + 1) = lvlL f q iv n ++ f (g n) by rw [lvlL_succ, hg]))
      have HLL := Lib.hid (fun n => lvlL_len HLEN.out q iv n)
      have HT2 := Lib.hid (fun j (hj : j ≤ N) => (show g j ≤ hi ↔ j < N by rw [hg]; exact HT.out j hj))
      have HB3 := Lib.hid (fun j (hj : j ≤ N) => (show -10000 ≤ q ∧ q ≤ 10000 ∧ N ≤ 20000 ∧ -20000 ≤ g j ∧ g j ≤ 30000 by rw [hg]; exact HBD.out j hj))
      obtain ⟨b1, b2, b3, b4, b5⟩ := HB3.out 0 (by omega)
      have HL0 := Lib.hid (show lvlL f q iv 0 = [] from rfl)
      clear hg HT HBD HLT HLEN cL cF hb2 hrow1
      generalize lvlL f q iv = LV at *
      go_upto_block 0 with fail
      clear b4 b5 HG0 r0 r1 r2 r3 r4 r5
      go_wp2_with fail
      generalize w2 = w3 at *
      go_loopw [4, 9] (fun v4 l wr => ∃ j : Nat, j ≤ N ∧ l = .int .i64 (g j) ∧ Hid (LnR wr w3.heap.size v4 (LV j)) ∧ Below w3.heap.size w3 wr) (fun _ l _ => (hi + 1 - intOf l).toNat)
      case atStart => exact ⟨0, by omega, rfl, Lib.hid (by rw [HL0.out]; exact LnR.nil _ _), Below.refl _ _⟩
      case round =>
        obtain ⟨j, hj, rfl, hL, hbr⟩ := hrel
        obtain ⟨b1, b2, b3, b4, b5⟩ := HB3.out j hj
        by_cases hlt : j < N
        rotate_left
        · have hjn : N = j := by omega
          subst hjn
          have hge : ¬ g N ≤ hi := fun h => by have := (HT2.out N hj).1 h; omega
          clear hrow2
          go_wp2
          go_ret2
          exact ⟨_, by rw [HE.out]; rfl, by rw [HALL.out]; exact hL.out.mono HB2.out.size, HB2.out.trans (hbr.mono HB2.out.size)⟩
        · have hle : g j ≤ hi := (HT2.out j hj).2 hlt
          have hgs := HGS.out j
          obtain ⟨_, _, _, b6, b7⟩ := HB3.out (j + 1) (by omega)
          have hrow3 := hrow2.below hbr
          obtain ⟨r0, r1, r2, r3, r4, r5⟩ := hrow3.cells
          dsimp only at r0 r1 r2 r3 r4 r5
          have cLj := Lib.hid (cL2.out (g j) wr (HB2.out.trans (hbr.mono HB2.out.size)))
          have HLj := Lib.hid (HLV.out j)
          have hKl : (LV j ++ f (g j)).length ≤ 12288 * (j + 1) := by rw [← HLV.out]; exact HLL.out (j + 1)
          rw [List.length_append] at hKl
          generalize f (g j) = K at *
          clear hrow2 hrow3
          go_wp2_with fail
          refine cLj.out.mono ?_
          rintro e w5 ⟨vk, rfl, hK, hb5⟩
          have hsz : w3.heap.size ≤ wr.heap.size := hbr.size
          have hL5 := hL.out.below hb5
          have hob : ∀ q, u4.ownBlock = some q → q < wr.heap.size := fun q e => (hL.out.own q e).2
          have hlen : (LV j).length + K.length ≤ 1000000000 := by omega
          have hsz5 : w3.heap.size ≤ w5.heap.size := Nat.le_trans hsz hb5.size
          have HB5 := Lib.hid (hbr.trans (hb5.mono hsz))
          clear r0 r1 r2 r3 r4 r5 cLj hb5 hbr
          go_wp2_with (at_builtin; refine Try.appLs hL5 hK hob hsz rfl _ _ rfl rfl rfl hlen hsz5 ?_; intro v9 w9 hL9 hb9)
          go_roundw
          case rel => exact ⟨j + 1, by omega, by go_num, Lib.hid (by rw [HLj.out]; exact hL9), HB5.out.trans hb9⟩
          case measure => simp [intOf]; omega
end Go.Proofs
/- Small parts of Inside: near, slices.Index and Contains on points. -/
set_option linter.unusedVariables false
set_option linter.unusedSimpArgs false
namespace Go.Proofs
open Go.RowKit Go.Proofs.Mp Go.Lib

def nearB (p : Pt) : Bool := decide (-2097152 ≤ p.1 ∧ p.1 ≤ 2097152 ∧ -2097152 ≤ p.2 ∧ p.2 ≤ 2097152)
theorem con_near (p : Pt) (w : World) : Calls Try.prog 36 #[aggP p] w (RetV w (.bool (nearB p))) := by
  have cI := Lib.hid fun W => (show Calls Try.prog 37 #[.agg #[.int .i64 (-2097152), .int .i64 (-2097152), .int .i64 2097152, .int .i64 2097152], .agg #[.int .i64 p.1, .int .i64 p.2]] W (RetV W (.bool (nearB p))) from geom_in ⟨-2097152, -2097152, 2097152, 2097152⟩ p W)
  have hb0 : Below w.heap.size w (w.alloc (.cells #[.int .i64 p.1, .int .i64 p.2] 23)) := bw1 _ _
  have hs0 : (w.alloc (.cells #[.int .i64 p.1, .int .i64 p.2] 23)).heap.size = w.heap.size + 1 := by simp
  unfold aggP at *
  generalize nearB p = r at *
  obtain ⟨x, y⟩ := p
  dsimp only at *
  go_enter Try.func36, Try.ntmps36
  go_wp2_with fail
  refine (cI.out _).mono ?_
  rintro e w1 ⟨rfl, hb1⟩
  have HB := Lib.hid (hb0.trans (hb1.mono (by omega)))
  clear cI hb0 hb1
  go_wp2
  go_ret
  exact ⟨rfl, HB.out⟩
def RetK (w : World) (P : Int → Prop) (e : Ending) (w' : World) : Prop := ∃ k : Int, e = .returned (.int .i64 k) ∧ P k ∧ Below w.heap.size w w'
set_option maxHeartbeats 4000000 in
theorem con_index (xs : List Pt) (p : Pt) (A : Option Addr) (c : Nat) (w : World) (hR : Rd 2 encR w A xs) (hl : xs.length ≤ 1000000000000) :
    Calls Try.prog 62 #[.slice A xs.length c, aggP p] w (RetK w fun k => 0 ≤ k ↔ p ∈ xs) := by
  have heq := Try.eql23
  have hgd := Try.guard23
  have hb0 : Below w.heap.size w (w.alloc (.cells #[.int .i64 p.1, .int .i64 p.2] 23)) := bw1 _ _
  have hbox := heap_alloc_new w (.cells #[.int .i64 p.1, .int .i64 p.2] 23)
  have b1 : (w.alloc (.cells #[.int .i64 p.1, .int .i64 p.2] 23)).cell? ⟨w.heap.size, 0, none⟩ = some (.int .i64 p.1) := by rw [cell_of_row _ _ _ _ _ _ hbox]; rfl
  have b2 : (w.alloc (.cells #[.int .i64 p.1, .int .i64 p.2] 23)).cell? ⟨w.heap.size, 1, none⟩ = some (.int .i64 p.2) := by rw [cell_of_row _ _ _ _ _ _ hbox]; rfl
  clear hbox
  unfold aggP
  go_enter Try.func62, Try.ntmps62
  go_upto_region 1 with fail
  generalize (w.alloc (.cells #[.int .i64 p.1, .int .i64 p.2] 23)) = wA at *
  have HR := Lib.hid (hR.below hb0)
  have HB := Lib.hid hb0
  clear hR hb0
  go_wp2_with fail
  go_loopw [8] (fun i wr => ∃ k q : Nat, k ≤ xs.length ∧ i = .int .i64 k ∧ wA.drewN q = wr ∧ ∀ j, j < k → xs[j]! ≠ p) (fun i _ => xs.length - (intOf i).toNat)
  case atStart => exact ⟨0, 0, by omega, rfl, rfl, fun j hj => by omega⟩
  case round =>
    obtain ⟨k, q, hk, rfl, rfl, hall⟩ := hrel
    by_cases hlt : k < xs.length
    rotate_left
    · have hkn : xs.length = k := by omega
      subst hkn
      have hge : ¬ ((xs.length : Int) < (xs.length : Int)) := by omega
      have HN := Lib.hid (show ¬ p ∈ xs from fun h => by
        obtain ⟨j, hj, he⟩ := List.mem_iff_getElem.1 h
        exact hall j hj (by rw [getElem!_pos xs j hj]; exact he))
      clear hall
      go_wp2
      go_ret
      exact ⟨-1, rfl, ⟨fun h => by omega, fun h => absurd h HN.out⟩, ⟨HB.out.os, HB.out.tape, HB.out.output, HB.out.size, HB.out.block⟩⟩
    · have hli : (k : Int) < (xs.length : Int) := by omega
      obtain ⟨b, off, rfl, hbl, hc⟩ := Rd.at_ HR.out hlt
      have c1 := hc k hlt 0 (.int .i64 xs[k]!.1) rfl
      have c2 := hc k hlt 1 (.int .i64 xs[k]!.2) rfl
      rw [show off + k * 2 + 0 = off + k * 2 by omega] at c1
      have HA := Lib.hid hall
      have HM := Lib.hid (show xs[k]! ∈ xs by rw [getElem!_pos xs k hlt]; exact List.getElem_mem hlt)
      obtain ⟨y1, y2, hy⟩ : ∃ y1 y2, xs[k]! = (y1, y2) := ⟨_, _, rfl⟩
      have HY := Lib.hid hy
      rw [hy] at c1 c2 HM
      dsimp only at c1 c2
      clear hc hall hy
      obtain ⟨p1, p2⟩ := p
      dsimp only at b1 b2 HA
      by_cases hd : (p1, p2) = (y1, y2)
      · injection hd with e1 e2
        subst e1 e2
        go_wp2_with fail
        go_region
        go_wp2
        go_ret
        exact ⟨(k : Int), rfl, ⟨fun _ => HM.out, fun _ => by omega⟩, ⟨HB.out.os, HB.out.tape, HB.out.output, HB.out.size, HB.out.block⟩⟩
      · go_wp2_with fail
        go_region
        go_wp2
        go_roundw
        case rel => exact ⟨k + 1, q + 1, by omega, by go_num, rfl, fun j hj => by
          by_cases e : j = k
          · rw [e, HY.out]; exact fun h => hd h.symm
          · exact HA.out j (by omega)⟩
        case measure => simp [intOf]; omega
theorem con_contains (xs : List Pt) (p : Pt) (A : Option Addr) (c : Nat) (w : World) (hR : Rd 2 encR w A xs) (hl : xs.length ≤ 1000000000000) :
    Calls Try.prog 38 #[.slice A xs.length c, aggP p] w (RetV w (.bool (decide (p ∈ xs)))) := by
  have hb0 : Below w.heap.size w (w.alloc (.cells #[.int .i64 p.1, .int .i64 p.2] 23)) := bw1 _ _
  have cI := Lib.hid (show Calls Try.prog 62 #[.slice A xs.length c, .agg #[.int .i64 p.1, .int .i64 p.2]] (w.alloc (.cells #[.int .i64 p.1, .int .i64 p.2] 23)) (RetK (w.alloc (.cells #[.int .i64 p.1, .int .i64 p.2] 23)) fun k => 0 ≤ k ↔ p ∈ xs) from con_index xs p A c _ (hR.below hb0) hl)
  have hs0 : (w.alloc (.cells #[.int .i64 p.1, .int .i64 p.2] 23)).heap.size = w.heap.size + 1 := by simp
  have hbox := heap_alloc_new w (.cells #[.int .i64 p.1, .int .i64 p.2] 23)
  have b1 : (w.alloc (.cells #[.int .i64 p.1, .int .i64 p.2] 23)).cell? ⟨w.heap.size, 0, none⟩ = some (.int .i64 p.1) := by rw [cell_of_row _ _ _ _ _ _ hbox]; rfl
  have b2 : (w.alloc (.cells #[.int .i64 p.1, .int .i64 p.2] 23)).cell? ⟨w.heap.size, 1, none⟩ = some (.int .i64 p.2) := by rw [cell_of_row _ _ _ _ _ _ hbox]; rfl
  clear hbox hR
  unfold aggP
  obtain ⟨d, hd⟩ : ∃ d, decide (p ∈ xs) = d := ⟨_, rfl⟩
  have HD := Lib.hid hd
  rw [hd]
  clear hd
  go_enter Try.func38, Try.ntmps38
  go_upto_region 1 with fail
  generalize (w.alloc (.cells #[.int .i64 p.1, .int .i64 p.2] 23)) = wA at *
  go_wp2_with fail
  refine cI.out.mono ?_
  rintro e w1 ⟨k, rfl, hk, hb1⟩
  have HB := Lib.hid (hb0.trans (hb1.mono (by omega)))
  have HK := Lib.hid hk
  clear cI hb0 hb1 hk
  go_wp2
  go_ret
  exact ⟨by rw [← HD.out]; exact congrArg (fun b => Ending.returned (.bool b)) (decide_eq_decide.2 HK.out), HB.out⟩
end Go.Proofs
/- Plain: what Inside answers. -/
set_option linter.unusedVariables false
set_option linter.unusedSimpArgs false
namespace Go.Proofs
open Go.RowKit Go.Proofs.Mp

/-- the segment from a to b crosses the row to the east of p -/
def crsP (a b p : Pt) : Bool := (decide (a.2 ≤ p.2) && decide (p.2 < b.2) && decide (sd a b p = 1)) || (decide (b.2 ≤ p.2) && decide (p.2 < a.2) && decide (sd a b p = -1))
/-- the parity of the crossings of the first n segments -/
def oddTo (xs : List Pt) (p : Pt) : Nat → Bool
  | 0 => false
  | n + 1 => if crsP xs[n]! xs[n + 1]! p then !oddTo xs p n else oddTo xs p n
def onTo (xs : List Pt) (p : Pt) (n : Nat) : Bool := (List.range n).any fun i => onB xs[i]! xs[i + 1]! p
def insV (xs : List Pt) (p : Pt) : Int :=
  if (nearB p && xs.all nearB) = true then (if p ∈ xs then 0 else if onTo xs p (xs.length - 1) = true then 0 else if oddTo xs p (xs.length - 1) = true ∧ xs[0]! = xs[xs.length - 1]! then 1 else -1) else -1
theorem onTo_succ (xs : List Pt) (p : Pt) (n : Nat) : onTo xs p (n + 1) = (onTo xs p n || onB xs[n]! xs[n + 1]! p) := by
  unfold onTo
  rw [List.range_succ, List.any_append]
  simp
end Go.Proofs
