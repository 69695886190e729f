import Derived.Test.YtaampfdgidndkaaT10
set_option linter.unusedVariables false
set_option linter.unusedSimpArgs false
namespace Go.Proofs
open Go.RowKit Go.Proofs.Mp

theorem interF_cons (n : Nat) (r s : Int × Int) (rs ss : List (Int × Int)) :
    interF (n + 1) (r :: rs) (s :: ss) = addr (max r.1 s.1) (min r.2 s.2) ++ (if r.2 < s.2 then interF n rs (s :: ss) else interF n (r :: rs) ss) := rfl

theorem rd_head {w : World} {A : Option Addr} {r : Int × Int} {rs : List (Int × Int)} (h : Rd 2 encR w A (r :: rs)) :
    ∃ b off, A = some ⟨b, off, none⟩ ∧ b < w.heap.size ∧ Hid (∀ wr : World, Below w.heap.size w wr → wr.cell? ⟨b, off, none⟩ = some (.int .i64 r.1) ∧ wr.cell? ⟨b, off + 1, none⟩ = some (.int .i64 r.2)) ∧ Rd 2 encR w (some ⟨b, off + 2, none⟩) rs := by
  obtain ⟨b, off, hA, h1, h2, h3⟩ := RdR.get h (Below.refl _ _) (j := 0) (by simp)
  subst hA
  have hd := Rd.drop h (by simp) 1
  refine ⟨b, off, rfl, h1, fun wr hb => ⟨(hb.cell (p := ⟨b, off, none⟩) h1).trans (by simpa using h2), (hb.cell (p := ⟨b, off + 1, none⟩) h1).trans (by simpa using h3)⟩, ?_⟩
  have e : (⟨b, off, none⟩ : Addr).add (1 * 2) = ⟨b, off + 2, none⟩ := by simp [Addr.add]
  rw [e] at hd
  simpa using hd

/-- the state of Inter's loop -/
def InterSt (wl : World) (tot : List (Int × Int)) (N : Nat) (v0 v1 v4 : Value) (wr : World) : Prop :=
  ∃ (ra rb out : List (Int × Int)) (A B : Option Addr) (ca cb : Nat), v0 = .slice A ra.length ca ∧ v1 = .slice B rb.length cb ∧ ra.length ≤ ca ∧ rb.length ≤ cb ∧ Rd 2 encR wl A ra ∧ Rd 2 encR wl B rb ∧
    OwnR 33 wr wl.heap.size v4 out ∧ Below wl.heap.size wl wr ∧ Hid (out ++ interF (ra.length + rb.length) ra rb = tot) ∧ out.length + ra.length + rb.length ≤ N

def lenOfV : Value → Nat | .slice _ n _ => n | _ => 0

set_option maxHeartbeats 2000000 in
theorem span_inter (A B : Option Addr) (c d : Nat) (xs ys : List (Int × Int)) (w : World) (h1 : xs.length ≤ 100000000) (h2 : ys.length ≤ 100000000) (hA : RdR w A xs) (hB : RdR w B ys) :
    Calls Try.prog 20 #[.slice A xs.length c, .slice B ys.length d] w (RetR w (interL xs ys)) := by
  have cA := span_normal_c A c xs w (by omega) hA
  have cB := fun W (hb : Below w.heap.size w W) => span_normal_c B d ys W (by omega) (hB.below hb)
  have n1 := normL_len xs
  have n2 := normL_len ys
  have HI := Lib.hid (show interL xs ys = interF ((normL xs).length + (normL ys).length) (normL xs) (normL ys) from rfl)
  generalize normL xs = na at *
  generalize normL ys = nb at *
  have CB := Lib.hid cB
  clear cB hA hB
  go_enter Try.func20, Try.ntmps20
  go_wp2_with fail
  refine cA.mono ?_
  rintro e w1 ⟨A1, c1, rfl, hc1, hR1, hb1⟩
  go_wp2_with fail
  refine (CB.out w1 hb1).mono ?_
  rintro e wl ⟨B1, d1, rfl, hc2, hR2, hb2⟩
  go_wp2_with fail
  have hb0 : Below w.heap.size w wl := hb1.trans (hb2.mono hb1.size)
  go_loopw [0, 1, 4] (fun v0 v1 v4 wr => InterSt wl (interL xs ys) (na.length + nb.length) v0 v1 v4 wr) (fun v0 v1 _ _ => lenOfV v0 + lenOfV v1)
  case atStart => exact ⟨na, nb, [], A1, B1, c1, d1, rfl, rfl, hc1, hc2, hR1.below hb2, hR2, Own.nil _ _, Below.refl _ _, HI.out.symm, by simp⟩
  case round =>
    obtain ⟨ra, rb, out, Aa, Ab, ca, cb, rfl, rfl, hca, hcb, hRa, hRb, hown, hbw, hsum, hlen⟩ := hrel
    clear hR1 hR2 hc1 hc2 CB HI
    have hbs := hbw.size
    rcases ra with _ | ⟨r, rs⟩
    · simp only [List.length_nil]
      go_wp2
      go_ret
      have e := hsum.out
      rw [interF_nil_left, List.append_nil] at e
      rw [← e]
      exact RetRd.of_own encR_len hown (hb0.trans (hbw.mono hb0.size))
    · rcases rb with _ | ⟨s, ss⟩
      · simp only [List.length_nil, List.length_cons]
        go_wp2
        go_ret
        have e := hsum.out
        rw [interF_nil_right, List.append_nil] at e
        rw [← e]
        exact RetRd.of_own encR_len hown (hb0.trans (hbw.mono hb0.size))
      · obtain ⟨ba, oa, rfl, hba, HCa, hRa'⟩ := rd_head hRa
        obtain ⟨bb, ob, rfl, hbb, HCb, hRb'⟩ := rd_head hRb
        obtain ⟨r1, r2⟩ := r
        obtain ⟨s1, s2⟩ := s
        obtain ⟨a1, a2⟩ := HCa.out wr hbw
        obtain ⟨b1, b2⟩ := HCb.out wr hbw
        dsimp only at a1 a2 b1 b2
        have hbar : ba < wr.heap.size := by omega
        have hbbr : bb < wr.heap.size := by omega
        simp only [List.length_cons] at hca hcb hlen ⊢
        have hl0 : (0 : Int) < (rs.length : Int) + 1 := by omega
        have hl1 : (0 : Int) < (ss.length : Int) + 1 := by omega
        have hbe : ∀ lo hi : Int, Below wl.heap.size wl (wr.drew.alloc (.cells #[.int .i64 lo, .int .i64 hi] 33)) := fun lo hi => (hbw.drew).alloc hbs _
        have ho : ∀ lo hi : Int, OwnR 33 (wr.drew.alloc (.cells #[.int .i64 lo, .int .i64 hi] 33)) wl.heap.size u4 out := fun lo hi => Own.alloc hown _
        have hstep := interF_cons (rs.length + 1 + ss.length) (r1, r2) (s1, s2) rs ss
        rw [show rs.length + 1 + ss.length + 1 = rs.length + 1 + (ss.length + 1) from by omega] at hstep
        dsimp only at hstep
        rw [show ((r1, r2) :: rs).length + ((s1, s2) :: ss).length = rs.length + 1 + (ss.length + 1) from rfl] at hsum
        rw [hstep] at hsum
        clear hstep
        by_cases g : max r1 s1 < min r2 s2
        · rw [show addr (max r1 s1) (min r2 s2) = [(max r1 s1, min r2 s2)] from if_pos g] at hsum
          by_cases t : r2 < s2
          · rw [if_pos t] at hsum
            have HSUM : Hid ((out ++ [(max r1 s1, min r2 s2)]) ++ interF (rs.length + (ss.length + 1)) rs ((s1, s2) :: ss) = interL xs ys) := by
              have e := hsum.out
              rw [List.append_assoc]
              rw [show rs.length + (ss.length + 1) = rs.length + 1 + ss.length from by omega]
              exact e
            clear hsum
            go_wp2_with fail
            go_region
            have hown1 := ho (max r1 s1) (min r2 s2)
            have hbe1 := hbe (max r1 s1) (min r2 s2)
            have hsz1 := hbe1.size
            clear ho hbe
            go_wp2_with (at_builtin; refine Try.appR2 hown1 (max r1 s1) (min r2 s2) rfl _ _ rfl rfl rfl (by simp) (by omega) hsz1 ?_; clear hown1; intro v1 w1 hown2 hb2)
            have hbz : Below wl.heap.size wl w1 := hbe1.trans hb2
            obtain ⟨a1', a2'⟩ := HCa.out _ hbz
            obtain ⟨b1', b2'⟩ := HCb.out _ hbz
            clear a1 a2 b1 b2 HCa HCb
            have HZ := Lib.hid hbz
            clear hbz
            by_cases hc : ca = 1
            · as_aux_lemma =>
              have hnil : rs = [] := List.eq_nil_of_length_eq_zero (by omega)
              subst hnil hc
              simp only [List.length_nil, Nat.zero_add] at hl0 hlen ⊢
              go_wp2_with fail
              go_quiet (fail)
              go_wp2
              go_roundw
              case rel => exact ⟨[], (s1, s2) :: ss, (out ++ [(max r1 s1, min r2 s2)]), _, _, 0, cb, rfl, rfl, Nat.le_refl _, hcb, Rd.nil _, hRb, hown2, below_drewN HZ.out _, HSUM, by simp at hlen ⊢; omega⟩
              case measure => simp [lenOfV]
            · as_aux_lemma =>
              go_wp2_with fail
              go_quiet (fail)
              go_wp2
              go_roundw
              case rel => exact ⟨rs, (s1, s2) :: ss, (out ++ [(max r1 s1, min r2 s2)]), _, _, ca - 1, cb, rfl, rfl, by omega, hcb, hRa', hRb, hown2, below_drewN HZ.out _, HSUM, by simp at hlen ⊢; omega⟩
              case measure => simp [lenOfV]
          · rw [if_neg t] at hsum
            have HSUM : Hid ((out ++ [(max r1 s1, min r2 s2)]) ++ interF (rs.length + 1 + ss.length) ((r1, r2) :: rs) ss = interL xs ys) := by
              have e := hsum.out
              rw [List.append_assoc]
              skip
              exact e
            clear hsum
            go_wp2_with fail
            go_region
            have hown1 := ho (max r1 s1) (min r2 s2)
            have hbe1 := hbe (max r1 s1) (min r2 s2)
            have hsz1 := hbe1.size
            clear ho hbe
            go_wp2_with (at_builtin; refine Try.appR2 hown1 (max r1 s1) (min r2 s2) rfl _ _ rfl rfl rfl (by simp) (by omega) hsz1 ?_; clear hown1; intro v1 w1 hown2 hb2)
            have hbz : Below wl.heap.size wl w1 := hbe1.trans hb2
            obtain ⟨a1', a2'⟩ := HCa.out _ hbz
            obtain ⟨b1', b2'⟩ := HCb.out _ hbz
            clear a1 a2 b1 b2 HCa HCb
            have HZ := Lib.hid hbz
            clear hbz
            by_cases hc : cb = 1
            · as_aux_lemma =>
              have hnil : ss = [] := List.eq_nil_of_length_eq_zero (by omega)
              subst hnil hc
              simp only [List.length_nil, Nat.zero_add] at hl1 hlen ⊢
              go_wp2_with fail
              go_quiet (fail)
              go_wp2
              go_roundw
              case rel => exact ⟨(r1, r2) :: rs, [], (out ++ [(max r1 s1, min r2 s2)]), _, _, ca, 0, rfl, rfl, hca, Nat.le_refl _, hRa, Rd.nil _, hown2, below_drewN HZ.out _, HSUM, by simp at hlen ⊢; omega⟩
              case measure => simp [lenOfV]
            · as_aux_lemma =>
              go_wp2_with fail
              go_quiet (fail)
              go_wp2
              go_roundw
              case rel => exact ⟨(r1, r2) :: rs, ss, (out ++ [(max r1 s1, min r2 s2)]), _, _, ca, cb - 1, rfl, rfl, hca, by omega, hRa, hRb', hown2, below_drewN HZ.out _, HSUM, by simp at hlen ⊢; omega⟩
              case measure => simp [lenOfV]
        · rw [show addr (max r1 s1) (min r2 s2) = [] from if_neg g] at hsum
          by_cases t : r2 < s2
          · rw [if_pos t] at hsum
            have HSUM : Hid (out ++ interF (rs.length + (ss.length + 1)) rs ((s1, s2) :: ss) = interL xs ys) := by
              have e := hsum.out
              rw [List.nil_append] at e
              rw [show rs.length + (ss.length + 1) = rs.length + 1 + ss.length from by omega]
              exact e
            clear hsum
            go_wp2_with fail
            go_region
            have hown1 := ho (max r1 s1) (min r2 s2)
            have hbe1 := hbe (max r1 s1) (min r2 s2)
            have hsz1 := hbe1.size
            clear ho hbe
            have hown2 := hown1
            have hbz : Below wl.heap.size wl (wr.alloc (.cells #[.int .i64 (max r1 s1), .int .i64 (min r2 s2)] 33)) := hbw.alloc hbs _
            clear HCa HCb hsz1 hown1 hbe1
            have HZ := Lib.hid hbz
            clear hbz
            by_cases hc : ca = 1
            · as_aux_lemma =>
              have hnil : rs = [] := List.eq_nil_of_length_eq_zero (by omega)
              subst hnil hc
              simp only [List.length_nil, Nat.zero_add] at hl0 hlen ⊢
              go_wp2_with fail
              go_quiet (fail)
              go_wp2
              go_roundw
              case rel => exact ⟨[], (s1, s2) :: ss, out, _, _, 0, cb, rfl, rfl, Nat.le_refl _, hcb, Rd.nil _, hRb, hown2, below_drewN HZ.out _, HSUM, by simp at hlen ⊢; omega⟩
              case measure => simp [lenOfV]
            · as_aux_lemma =>
              go_wp2_with fail
              go_quiet (fail)
              go_wp2
              go_roundw
              case rel => exact ⟨rs, (s1, s2) :: ss, out, _, _, ca - 1, cb, rfl, rfl, by omega, hcb, hRa', hRb, hown2, below_drewN HZ.out _, HSUM, by simp at hlen ⊢; omega⟩
              case measure => simp [lenOfV]
          · rw [if_neg t] at hsum
            have HSUM : Hid (out ++ interF (rs.length + 1 + ss.length) ((r1, r2) :: rs) ss = interL xs ys) := by
              have e := hsum.out
              rw [List.nil_append] at e
              skip
              exact e
            clear hsum
            go_wp2_with fail
            go_region
            have hown1 := ho (max r1 s1) (min r2 s2)
            have hbe1 := hbe (max r1 s1) (min r2 s2)
            have hsz1 := hbe1.size
            clear ho hbe
            have hown2 := hown1
            have hbz : Below wl.heap.size wl (wr.alloc (.cells #[.int .i64 (max r1 s1), .int .i64 (min r2 s2)] 33)) := hbw.alloc hbs _
            clear HCa HCb hsz1 hown1 hbe1
            have HZ := Lib.hid hbz
            clear hbz
            by_cases hc : cb = 1
            · as_aux_lemma =>
              have hnil : ss = [] := List.eq_nil_of_length_eq_zero (by omega)
              subst hnil hc
              simp only [List.length_nil, Nat.zero_add] at hl1 hlen ⊢
              go_wp2_with fail
              go_quiet (fail)
              go_wp2
              go_roundw
              case rel => exact ⟨(r1, r2) :: rs, [], out, _, _, ca, 0, rfl, rfl, hca, Nat.le_refl _, hRa, Rd.nil _, hown2, below_drewN HZ.out _, HSUM, by simp at hlen ⊢; omega⟩
              case measure => simp [lenOfV]
            · as_aux_lemma =>
              go_wp2_with fail
              go_quiet (fail)
              go_wp2
              go_roundw
              case rel => exact ⟨(r1, r2) :: rs, ss, out, _, _, ca, cb - 1, rfl, rfl, hca, by omega, hRa, hRb', hown2, below_drewN HZ.out _, HSUM, by simp at hlen ⊢; omega⟩
              case measure => simp [lenOfV]
end Go.Proofs
