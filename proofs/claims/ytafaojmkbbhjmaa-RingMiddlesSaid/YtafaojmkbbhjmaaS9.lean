import Derived.Test.YtafaojmkbbhjmaaS8
import Derived.StillTailTactics
set_option linter.unusedVariables false
set_option linter.unusedSimpArgs false
namespace Go.Proofs
open Go.RowKit Go.Proofs.Mp

theorem sort_any' (g cap : Nat) (zs : List (Int × Int)) (w : World) (hr : Row w g 52 (zs.flatMap encR)) (hsz : zs.length ≤ 1000000000000) :
    Calls Try.prog 78 #[.slice (some ⟨g, 0, none⟩) zs.length cap, .func (.func 79) #[] #[]] w fun e w' => e = .returned (.tuple #[]) ∧ ∃ p : List (Int × Int), Hid (mergeL p = normL zs) ∧ p.length = zs.length ∧ Rd 2 encR w' (some ⟨g, 0, none⟩) p ∧ Below g w w' :=
  (sort_any g cap zs w hr hsz).mono fun e w' ⟨he, p, h1, h2, h3, h4, h5⟩ => ⟨he, p, merge_of_sorted h1 h2, h3, h4, h5⟩

theorem Try.sizeR : (Try.prog.info? 52).map (·.size) = some 2 := by kernel_rfl

theorem Try.appR2 {w : World} {base : Nat} {v : Value} {xs : List (Int × Int)} {ops : Array Oper} {rest : List Oper} {o : Oper} {a : Act} {Q : Exit → Act → World → Prop} {nb : Nat}
    (hown : OwnR 52 w base v xs) (lo hi : Int) (hgd : o.guard = none) (s x : Operand)
    (ho : o.op = .call { callee := .builtin .append, args := #[s, x], argTypes := #[55, 55] }) (hs : a.eval s = v) (hx : a.eval x = .slice (some ⟨nb, 0, none⟩) 1 1) (hnb : nb = w.heap.size)
    (hN : xs.length + 1 ≤ 1000000000000) (hbase : base ≤ w.heap.size)
    (h : ∀ v' w', OwnR 52 w' base v' (xs ++ [(lo, hi)]) → Below base w w' → wpList Try.prog ops Q rest (a.put o.dst v') w') :
    wpList Try.prog ops Q (o :: rest) a (w.alloc (.cells #[.int .i64 lo, .int .i64 hi] 52)) :=
  Try.appR hown lo hi hgd s x ho hs (by rw [← hnb]; exact hx) hN hbase h

theorem Try.copyAt {w : World} {zs : List (Int × Int)} {ops : Array Oper} {rest : List Oper} {o : Oper} {a : Act} {Q : Exit → Act → World → Prop} {g off : Nat} {pre mid post : List Value} {A : Option Addr}
    (hr : Row w g 52 (pre ++ mid ++ post)) (hm : mid.length = zs.length * 2) (hp : pre.length = off) (hsrc : Rd 2 encR w A zs) (hgd : o.guard = none) (d s : Operand)
    (ho : o.op = .call { callee := .builtin .copy, args := #[d, s], argTypes := #[55, 55] }) (dp : Option Addr) (dLen dCap c : Nat) (hd : a.eval d = .slice dp dLen dCap) (hs : a.eval s = .slice A zs.length c)
    (hle : zs.length ≤ dLen) (hdp : 0 < zs.length → dp = some ⟨g, off, none⟩)
    (h : ∀ w', Row w' g 52 (pre ++ zs.flatMap encR ++ post) → Below g w w' → wpList Try.prog ops Q rest (a.put o.dst (goInt zs.length)) w') :
    wpList Try.prog ops Q (o :: rest) a w := by
  refine wpList_copyK hgd d s 55 55 ho 52 2 Try.underlying55 Try.sizeR dp A dLen dCap zs.length c hd hs g off (pre ++ mid ++ post) 52 hr (zs.flatMap encR) zs.length
    (Nat.min_eq_left hle).symm (flat_len encR_len zs) ?_ ?_ ?_ ?_
  · intro hpos
    obtain ⟨ad, h1, h2⟩ := Rd.flat encR_len (by decide) hsrc (by intro hh; rw [hh] at hpos; simp at hpos)
    exact ⟨hdp hpos, ad, h1, h2⟩
  · rw [flat_len encR_len]; simp only [List.length_append]; omega
  · intro v hv
    obtain ⟨x, _, hx⟩ := List.mem_flatMap.1 hv
    exact encR_one x v hx
  · intro w' h1 h2
    refine h w' ?_ h2
    have e : splice (pre ++ mid ++ post) off (zs.flatMap encR) = pre ++ zs.flatMap encR ++ post := by
      unfold splice
      have e1 : (pre ++ mid ++ post).take off = pre := by rw [List.append_assoc, ← hp, List.take_left]
      have e2 : (pre ++ mid ++ post).drop (off + (zs.flatMap encR).length) = post := by rw [flat_len encR_len, ← hm, ← hp, ← List.length_append, List.drop_left]
      rw [e1, e2, List.append_assoc]
    rwa [e] at h1

set_option maxHeartbeats 2000000 in
theorem span_normal_c (A : Option Addr) (c : Nat) (zs : List (Int × Int)) (w : World) (hmax : zs.length ≤ 1000000000) (hR : RdR w A zs) :
    Calls Try.prog 61 #[.slice A zs.length c] w (RetRc 2 encR w (normL zs)) := by
  obtain ⟨i0, hi0, hz0, hz1, hz2⟩ := info_parts Try.infoR
  go_enter Try.func61, Try.ntmps61
  go_wp2_with (first
    | (at_make; refine wpList_makeRow rfl _ _ 55 rfl 52 i0 _ 2 Try.underlying55 hi0 hz0 hz1 _ _ _ _ zs.length rfl rfl rfl rfl (by rw [hz2]; omega) (by omega) ?_; intro w1 hr1 hb1; have hr1' : Row w1 w.heap.size 52 ([] ++ (madeCells (Value.agg #[Value.int IntKind.i64 0, Value.int IntKind.i64 0]).cells (zs.length * 2)).toList ++ []) := (by simpa using hr1); clear hr1)
    | (with_reducible refine Try.copyAt (o := ⟨some 12, _, _, _, _, _⟩) hr1' (by simp [size_madeCells]) rfl (hR.below hb1) rfl (.tmp 10) (.tmp 11) rfl _ _ _ _ rfl rfl (Nat.le_refl _) (fun _ => rfl) ?_; intro w2 hr2 hb2; have hr2' : Row w2 w.heap.size 52 (zs.flatMap encR) := (by simpa using hr2); clear hr2 hr1')
    | (go_at_call 78; refine (sort_any' w.heap.size zs.length zs w2 hr2' (by omega)).mono ?_; rintro e wl ⟨rfl, p, hm, hpl, hRl, hb3⟩))
  have hb0 : Below w.heap.size w wl := (hb1.trans hb2).trans hb3
  clear hb1 hb2 hb3 hr2' hz2 hz1 hz0 hi0 i0 hR
  obtain ⟨g, hg⟩ : ∃ g, g = w.heap.size := ⟨_, rfl⟩
  rw [← hg] at hRl
  rw [← hg]
  have HGG := Lib.hid hg
  have HM := Lib.hid (show p.foldl mergeStep [] = normL zs from hm.out)
  clear hg hm
  go_loopw [2, 17] (fun v i wr => ∃ k : Nat, k ≤ zs.length ∧ i = .int .i64 k ∧ OwnR 52 wr wl.heap.size v ((p.take k).foldl mergeStep []) ∧ Below wl.heap.size wl wr) (fun _ i _ => zs.length - (intOf i).toNat)
  case atStart => exact ⟨0, by omega, rfl, Own.nil _ _, Below.refl _ _⟩
  case round =>
    obtain ⟨k, hk, rfl, hown, hbw⟩ := hrel
    have hbs := hbw.size
    have hlen := merge_len (p.take k) []
    rw [List.length_take, List.length_nil] at hlen
    by_cases hlt : k < zs.length
    · obtain ⟨b, off, hA, hb, h1, h2⟩ := RdR.get hRl hbw (show k < p.length by omega)
      injection hA with hA
      injection hA with hA1 hA2 _
      subst hA1 hA2
      have HX := Lib.hid (foldl_take_succ mergeStep [] p k (by omega))
      rcases hz : p[k]! with ⟨lo, hi⟩
      rw [hz] at h1 h2 HX
      clear hz
      generalize (p.take k).foldl mergeStep [] = out at *
      have hlen' : out.length + 1 ≤ 1000000000000 := by omega
      have hgr : g < wr.heap.size := Nat.lt_of_lt_of_le hb hbs
      have HPL := Lib.hid hpl
      clear hlen hpl
      simp only [Nat.zero_add] at h1 h2
      have hbl : Below wl.heap.size wl (wr.alloc (.cells #[.int .i64 lo, .int .i64 hi] 52)) := hbw.alloc hbs _
      have hsz : wl.heap.size ≤ (wr.alloc (.cells #[.int .i64 lo, .int .i64 hi] 52)).heap.size := hbl.size
      have hown0 : OwnR 52 (wr.alloc (.cells #[.int .i64 lo, .int .i64 hi] 52)) wl.heap.size _ out := Own.alloc hown _
      by_cases g1 : hi ≤ lo
      · obtain ⟨A0, c0, rfl⟩ := Own.slice hown
        rw [mergeStep_empty _ _ g1] at HX
        go_wp2
        go_roundw
        case rel => exact ⟨k + 1, by omega, by go_num, by rw [HX.out]; exact hown0, hbl⟩
        case measure => simp [intOf]; omega
      · rcases List.eq_nil_or_concat out with rfl | ⟨ys, ⟨l, h⟩, hout⟩
        · obtain ⟨A0, c0, rfl⟩ := Own.slice hown
          rw [mergeStep_nil _ g1] at HX
          simp only [List.length_nil]
          go_wp2_with fail
          go_quiet (fail)
          have hown1 : OwnR 52 ((wr.alloc (.cells #[.int .i64 lo, .int .i64 hi] 52)).drewN nq) wl.heap.size (.slice A0 0 c0) [] := hown0
          have hsz1 : wl.heap.size ≤ ((wr.alloc (.cells #[.int .i64 lo, .int .i64 hi] 52)).drewN nq).heap.size := hsz
          have hbl1 : Below wl.heap.size wl ((wr.alloc (.cells #[.int .i64 lo, .int .i64 hi] 52)).drewN nq) := below_drewN hbl nq
          go_wp2_with (at_builtin; refine Try.appR2 hown1 lo hi rfl _ _ rfl rfl rfl (by simp) (by simp) hsz1 ?_; clear hown1; intro v1 w1 hown2 hb2)
          go_roundw
          case rel => exact ⟨k + 1, by omega, by go_num, by rw [HX.out]; exact hown2, hbl1.trans hb2⟩
          case measure => simp [intOf]; omega
        · rw [List.concat_eq_append] at hout
          subst hout
          rw [mergeStep_snoc _ _ _ g1] at HX
          obtain ⟨g', cap, rfl, hg', hgs', hl1, hh1, hfz1, hset1⟩ := OwnR.last hown
          simp only [List.length_append, List.length_singleton] at hlen'
          have hy0 : (0 : Int) ≤ (ys.length : Int) := Int.natCast_nonneg _
          have hy1 : (ys.length : Int) < (ys.length : Int) + 1 := by omega
          have hd0 : decide ((0 : Int) ≤ (ys.length : Int)) = true := decide_eq_true hy0
          have hyw : IntKind.i64.wrap (ys.length : Int) = (ys.length : Int) := IntWalk.i64_in _ (by omega)
          have hne : g' ≠ wr.heap.size := by omega
          have hset2 : ∀ n, OwnR 52 (((wr.alloc (.cells #[.int .i64 lo, .int .i64 hi] 52)).drewN n).setCell ⟨g', ys.length * 2 + 1, none⟩ (.int .i64 (max h hi))) wl.heap.size (.slice (some ⟨g', 0, none⟩) (ys.length + 1) cap) (ys ++ [(l, max h hi)]) := fun n => by
            obtain ⟨g'', cap'', he, _, _, _, _, _, hs⟩ := OwnR.last hown0
            injection he with he1
            injection he1 with he2
            injection he2 with he3
            subst he3
            exact hs _
          have HS1 := Lib.hid hset2
          have HG := Lib.hid hg'
          clear hset1 hset2 hg'
          by_cases g2 : lo ≤ h
          · have d2 : decide (lo ≤ h) = true := decide_eq_true g2
            rw [if_pos g2] at HX
            go_wp2_with fail
            go_quiet (fail)
            go_wp2_with fail
            go_region
            go_wp2
            go_roundw
            case rel => exact ⟨k + 1, by omega, by go_num, by rw [HX.out]; exact HS1.out nq, (below_drewN hbl nq).drew.setCell (p := ⟨g', ys.length * 2 + 1, none⟩) HG.out _⟩
            case measure => simp [intOf]; omega
          · have d2 : decide (lo ≤ h) = false := decide_eq_false g2
            rw [if_neg g2] at HX
            go_wp2_with fail
            go_quiet (fail)
            have hown1 : OwnR 52 ((wr.alloc (.cells #[.int .i64 lo, .int .i64 hi] 52)).drewN nq) wl.heap.size (.slice (some ⟨g', 0, none⟩) (ys.length + 1) cap) (ys ++ [(l, h)]) := hown0
            have hsz1 : wl.heap.size ≤ ((wr.alloc (.cells #[.int .i64 lo, .int .i64 hi] 52)).drewN nq).heap.size := hsz
            have hbl1 : Below wl.heap.size wl ((wr.alloc (.cells #[.int .i64 lo, .int .i64 hi] 52)).drewN nq) := below_drewN hbl nq
            go_wp2_with (at_builtin; refine Try.appR2 hown1 lo hi rfl _ _ rfl rfl rfl (by simp) (by simp; omega) hsz1 ?_; clear hown1; intro v1 w1 hown2 hb2)
            go_roundw
            case rel => exact ⟨k + 1, by omega, by go_num, by rw [HX.out]; exact hown2, hbl1.trans hb2⟩
            case measure => simp [intOf]; omega
    · obtain rfl : k = zs.length := by omega
      go_wp2
      go_ret
      rw [List.take_of_length_le (by omega), HM.out] at hown
      exact RetRc.of_own encR_len hown (hb0.trans (hbw.mono hb0.size))

theorem span_normal (A : Option Addr) (c : Nat) (zs : List (Int × Int)) (w : World) (hmax : zs.length ≤ 1000000000) (hR : RdR w A zs) :
    Calls Try.prog 61 #[.slice A zs.length c] w (RetR w (normL zs)) := (span_normal_c A c zs w hmax hR).mono fun _ _ h => h.rd
end Go.Proofs
