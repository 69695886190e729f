import Derived.Test.YtaampfdgidndkaaT4
set_option linter.unusedVariables false
set_option linter.unusedSimpArgs false
namespace Go.Proofs
open Go.RowKit Go.Proofs.Mp

def wantedL (xs ys : List (Int × Int)) (op x : Int) : Bool :=
  if op = 0 then hasL xs x || hasL ys x else if op = 1 then hasL xs x && hasL ys x else hasL xs x && !hasL ys x
/-- the list with one interval more, joined to the last one if that ends at its beginning -/
def joinR (out : List (Int × Int)) (lo hi : Int) : List (Int × Int) :=
  match out.getLast? with
  | some r => if r.2 = lo then out.dropLast ++ [(r.1, hi)] else out ++ [(lo, hi)]
  | none => out ++ [(lo, hi)]
def buildTo (p : Int → Bool) (at_ : List Int) : Nat → List (Int × Int)
  | 0 => []
  | k + 1 => if p at_[k]! then joinR (buildTo p at_ k) at_[k]! at_[k + 1]! else buildTo p at_ k
def buildL (xs ys : List (Int × Int)) (op : Int) : List (Int × Int) := buildTo (wantedL xs ys op) (boundsL xs ys) ((boundsL xs ys).length - 1)

theorem joinR_nil (lo hi : Int) : joinR [] lo hi = [(lo, hi)] := rfl
theorem joinR_snoc (xs : List (Int × Int)) (r : Int × Int) (lo hi : Int) : joinR (xs ++ [r]) lo hi = if r.2 = lo then xs ++ [(r.1, hi)] else xs ++ [r] ++ [(lo, hi)] := by
  simp [joinR]
theorem joinR_len (xs : List (Int × Int)) (lo hi : Int) : (joinR xs lo hi).length ≤ xs.length + 1 := by
  rcases List.eq_nil_or_concat xs with rfl | ⟨ys, r, rfl⟩
  · simp [joinR]
  · rw [List.concat_eq_append, joinR_snoc]; split <;> simp
theorem buildTo_len (p : Int → Bool) (at_ : List Int) (k : Nat) : (buildTo p at_ k).length ≤ k := by
  induction k with
  | zero => simp [buildTo]
  | succ k ih =>
    simp only [buildTo]
    split
    · have := joinR_len (buildTo p at_ k) at_[k]! at_[k + 1]!; omega
    · omega

theorem Try.infoR : (Try.prog.info? 33).map (fun i => (i.zero, i.size, i.bytes)) = some (some (.agg #[.int .i64 0, .int .i64 0]), 2, 16) := by kernel_rfl

theorem Try.appR {w : World} {base : Nat} {v : Value} {xs : List (Int × Int)} {ops : Array Oper} {rest : List Oper} {o : Oper} {a : Act} {Q : Exit → Act → World → Prop}
    (hown : OwnR 33 w base v xs) (lo hi : Int) (hgd : o.guard = none) (s x : Operand)
    (ho : o.op = .call { callee := .builtin .append, args := #[s, x], argTypes := #[22, 22] }) (hs : a.eval s = v) (hx : a.eval x = .slice (some ⟨w.heap.size, 0, none⟩) 1 1)
    (hN : xs.length + 1 ≤ 1000000000000) (hbase : base ≤ w.heap.size)
    (h : ∀ v' w', OwnR 33 w' base v' (xs ++ [(lo, hi)]) → Below base w w' → wpList Try.prog ops Q rest (a.put o.dst v') w') :
    wpList Try.prog ops Q (o :: rest) a (w.alloc (.cells #[.int .i64 lo, .int .i64 hi] 33)) := by
  obtain ⟨i0, hi0, hz0, hz1, hz2⟩ := info_parts Try.infoR
  exact Own.append1 22 i0 (.agg #[.int .i64 0, .int .i64 0]) 16 Try.underlying22 hi0 hz0 hz1 hz2 rfl (by decide) (by decide) encR_len encR_one hgd s x ho hown hs (lo, hi) hx (by omega) hbase h

theorem Try.stepR {w : World} {base : Nat} {v : Value} {xs : List (Int × Int)} {ops : Array Oper} {o : Oper} {a : Act} {K : Act → World → Prop} {Q : Exit → Act → World → Prop} {E : Prop}
    (hown : OwnR 33 w base v xs) (lo hi : Int) (hgd : o.guard = none) (s x : Operand)
    (ho : o.op = .call { callee := .builtin .append, args := #[s, x], argTypes := #[22, 22] }) (hs : a.eval s = v) (hx : a.eval x = .slice (some ⟨w.heap.size, 0, none⟩) 1 1)
    (hN : xs.length + 1 ≤ 1000000000000) (hbase : base ≤ w.heap.size)
    (h : ∀ v' w', OwnR 33 w' base v' (xs ++ [(lo, hi)]) → Below base w w' → K (a.put o.dst v') w') :
    if Region.wanted o (yielded ops a.tmps) = true then Oper.wp Try.prog o a (w.alloc (.cells #[.int .i64 lo, .int .i64 hi] 33)) K Q else E := by
  obtain ⟨i0, hi0, hz0, hz1, hz2⟩ := info_parts Try.infoR
  exact Own.step1 22 i0 (.agg #[.int .i64 0, .int .i64 0]) 16 Try.underlying22 hi0 hz0 hz1 hz2 rfl (by decide) (by decide) encR_len encR_one hgd s x ho hown hs (lo, hi) hx (by omega) hbase h

set_option maxHeartbeats 1000000 in
theorem ref_build (A B : Option Addr) (c d : Nat) (op : Int) (xs ys : List (Int × Int)) (w : World) (h1 : xs.length ≤ 100000000) (h2 : ys.length ≤ 100000000) (hA : RdR w A xs) (hB : RdR w B ys) :
    Calls Try.prog 27 #[.slice A xs.length c, .slice B ys.length d, .int .i64 op] w (RetR w (buildL xs ys op)) := by
  have cW := fun (x : Int) (W : World) (hb : Below w.heap.size w W) => ref_wanted A B c d x op xs ys W (by omega) (by omega) (hA.below hb) (hB.below hb)
  have HP := Lib.hid (show buildL xs ys op = buildTo (wantedL xs ys op) (boundsL xs ys) ((boundsL xs ys).length - 1) from rfl)
  have hbl : (boundsL xs ys).length ≤ 400000000 := by
    have g1 := bnd_len xs []
    have g2 := bnd_len ys (xs.foldl bndStep [])
    simp only [List.length_nil] at g1
    unfold boundsL
    omega
  have cB := ref_bounds A B c d xs ys w h1 h2 hA hB
  generalize boundsL xs ys = bl at *
  change ∀ (x : Int) (W : World), Below w.heap.size w W → Calls Try.prog 35 _ W (RetV W (.bool (wantedL xs ys op x))) at cW
  generalize wantedL xs ys op = p at *
  have CW := Lib.hid cW
  clear cW
  go_enter Try.func27, Try.ntmps27
  go_wp2_with fail
  refine cB.mono ?_
  rintro e wl ⟨A', c', rfl, hRl, hbl0⟩
  clear cB
  go_wp2_with fail
  go_loopw [8, 9] (fun v i wr => ∃ k : Nat, (k = 0 ∨ k + 1 ≤ bl.length) ∧ i = .int .i64 k ∧ OwnR 33 wr wl.heap.size v (buildTo p bl k) ∧ Below wl.heap.size wl wr) (fun _ i _ => bl.length - (intOf i).toNat)
  case atStart => exact ⟨0, .inl rfl, rfl, Own.nil _ _, Below.refl _ _⟩
  case round =>
    obtain ⟨k, hk, rfl, hown, hbw⟩ := hrel
    have hlen := buildTo_len p bl k
    have hbs := hbw.size
    have hbs0 := hbl0.size
    by_cases hlt : k + 1 < bl.length
    · obtain ⟨b, off, rfl, hb, hc⟩ := RdI.getAll hRl hbw hlt
      have h1 := hc k (by omega)
      have h2 := hc (k + 1) hlt
      clear hc
      have HX := Lib.hid (show buildTo p bl (k + 1) = if p bl[k]! then joinR (buildTo p bl k) bl[k]! bl[k + 1]! else buildTo p bl k from rfl)
      generalize bl[k]! = lo at *
      generalize bl[k + 1]! = hi at *
      generalize buildTo p bl k = out at *
      have hbww : Below w.heap.size w wr := hbl0.trans (hbw.mono hbs0)
      have cw := CW.out lo wr hbww
      clear hk
      cases hp : p lo
      · rw [hp] at cw HX
        simp only [Bool.false_eq_true, if_false] at HX
        have CW1 := Lib.hid cw
        clear cw
        go_wp2_with fail
        refine CW1.out.mono ?_
        rintro e w1 ⟨rfl, hb1⟩
        go_wp2
        go_roundw
        case rel => exact ⟨k + 1, .inr (by omega), by go_num, by rw [HX.out]; exact Own.below hown hb1, hbw.trans (hb1.mono hbs)⟩
        case measure => simp [intOf]; omega
      · rw [hp] at cw HX
        simp only [if_true] at HX
        have CW1 := Lib.hid cw
        clear cw hp
        rcases List.eq_nil_or_concat out with rfl | ⟨ys, ⟨l, h⟩, hout⟩
        · obtain ⟨A0, c0, rfl⟩ := Own.slice hown
          simp only [List.length_nil]
          rw [joinR_nil] at HX
          go_wp2_with fail
          refine CW1.out.mono ?_
          rintro e w1 ⟨rfl, hb1⟩
          have g1 := (hb1.cell (p := ⟨b, off + k, none⟩) (Nat.lt_of_lt_of_le hb hbs)).trans h1
          have g2 := (hb1.cell (p := ⟨b, off + (k + 1), none⟩) (Nat.lt_of_lt_of_le hb hbs)).trans h2
          clear h1 h2
          go_wp2_with fail
          go_quiet (fail)
          go_wp2_with fail
          have g1' : (w1.drewN nq).drew.cell? ⟨b, off + k, none⟩ = some (.int .i64 lo) := g1
          have g2' : (w1.drewN nq).drew.cell? ⟨b, off + (k + 1), none⟩ = some (.int .i64 hi) := g2
          have hk0 : (0 : Int) ≤ (k : Int) := Int.natCast_nonneg _
          have hk1 : (k : Int) < (bl.length : Int) := by omega
          have hk2 : (0 : Int) ≤ (k : Int) + 1 := by omega
          have hk3 : (k : Int) + 1 < (bl.length : Int) := by omega
          have hk5 : ((k : Int) + 1).toNat = k + 1 := by omega
          have hk4 : IntKind.i64.wrap ((k : Int) + 1) = (k : Int) + 1 := IntWalk.i64_in _ (by omega)
          have hown1 : OwnR 33 (w1.drewN nq).drew wl.heap.size (.slice A0 0 c0) [] := Own.below hown (below_drewN hb1 nq).drew
          have hsz1 : wl.heap.size ≤ (w1.drewN nq).drew.heap.size := Nat.le_trans hbs hb1.size
          go_region_held3 (fun w' => w'.cell? ⟨b, off + k, none⟩ = some (.int .i64 lo) ∧ w'.cell? ⟨b, off + (k + 1), none⟩ = some (.int .i64 hi)) (first | go_keep | exact ⟨s1, s2⟩)
            ((refine Try.stepR hown1 lo hi rfl _ _ rfl rfl rfl (by simp) hsz1 ?_; intro v2 w2 hown2 hb2; have s1 := (hb2.cell (p := ⟨b, off + k, none⟩) hb).trans g1; have s2 := (hb2.cell (p := ⟨b, off + (k + 1), none⟩) hb).trans g2))
          go_wp2
          go_roundw
          case rel => exact ⟨k + 1, .inr (by omega), by go_num, by rw [HX.out]; exact hown2, (hbw.trans (((below_drewN hb1 nq).drew).mono hbs)).trans hb2⟩
          case measure => simp [intOf]; omega
        · rw [List.concat_eq_append] at hout
          subst hout
          rw [joinR_snoc] at HX
          simp only [List.length_append, List.length_singleton] at hlen
          obtain ⟨g, cap, rfl, hg, hgs, -⟩ := OwnR.last hown
          go_wp2_with fail
          refine CW1.out.mono ?_
          rintro e w1 ⟨rfl, hb1⟩
          obtain ⟨g', cap', he, -, hgs1, hl1, hh1, hfz1, hset1⟩ := OwnR.last (Own.below hown hb1)
          injection he with he1 _ he5
          subst he5
          injection he1 with he2
          injection he2 with he3
          subst he3
          have g1 := (hb1.cell (p := ⟨b, off + k, none⟩) (Nat.lt_of_lt_of_le hb hbs)).trans h1
          have g2 := (hb1.cell (p := ⟨b, off + (k + 1), none⟩) (Nat.lt_of_lt_of_le hb hbs)).trans h2
          have hk0 : (0 : Int) ≤ (k : Int) := Int.natCast_nonneg _
          have hk1 : (k : Int) < (bl.length : Int) := by omega
          have hk2 : (0 : Int) ≤ (k : Int) + 1 := by omega
          have hk3 : (k : Int) + 1 < (bl.length : Int) := by omega
          have hk5 : ((k : Int) + 1).toNat = k + 1 := by omega
          have hk4 : IntKind.i64.wrap ((k : Int) + 1) = (k : Int) + 1 := IntWalk.i64_in _ (by omega)
          have hm0 : (0 : Int) < (ys.length : Int) + 1 := by omega
          have hd0 : decide ((0 : Int) < (ys.length : Int) + 1) = true := decide_eq_true hm0
          have hm1 : ys.length ≤ 400000000 := by omega
          have HS1 := Lib.hid hset1
          have HG := Lib.hid hg
          clear h1 h2 hset1 hg
          by_cases hj : h = lo
          · subst hj
            have hq : (h == h) = true := by simp
            go_wp2_with fail
            go_quiet (fail)
            go_wp2
            go_roundw
            case rel => exact ⟨k + 1, .inr (by omega), by go_num, by rw [HX.out]; simp only [if_true]; exact HS1.out hi, (hbw.trans ((below_drewN hb1 nq).mono hbs)).setCell HG.out _⟩
            case measure => simp [intOf]; omega
          · have hq : (h == lo) = false := by simpa using hj
            have HJ := Lib.hid hj
            clear hj
            go_wp2_with fail
            go_quiet (fail)
            go_wp2_with fail
            have g1' : (w1.drewN nq).drew.cell? ⟨b, off + k, none⟩ = some (.int .i64 lo) := g1
            have g2' : (w1.drewN nq).drew.cell? ⟨b, off + (k + 1), none⟩ = some (.int .i64 hi) := g2
            have hown1 : OwnR 33 (w1.drewN nq).drew wl.heap.size (.slice (some ⟨g, 0, none⟩) (ys.length + 1) cap) (ys ++ [(l, h)]) := Own.below hown (below_drewN hb1 nq).drew
            have hsz1 : wl.heap.size ≤ (w1.drewN nq).drew.heap.size := Nat.le_trans hbs hb1.size
            go_region_held3 (fun w' => w'.cell? ⟨b, off + k, none⟩ = some (.int .i64 lo) ∧ w'.cell? ⟨b, off + (k + 1), none⟩ = some (.int .i64 hi)) (first | go_keep | exact ⟨s1, s2⟩)
              ((refine Try.stepR hown1 lo hi rfl _ _ rfl rfl rfl (by simp; omega) hsz1 ?_; intro v2 w2 hown2 hb2; have s1 := (hb2.cell (p := ⟨b, off + k, none⟩) hb).trans g1; have s2 := (hb2.cell (p := ⟨b, off + (k + 1), none⟩) hb).trans g2))
            go_wp2
            go_roundw
            case rel => exact ⟨k + 1, .inr (by omega), by go_num, by rw [HX.out, if_neg HJ.out]; exact hown2, (hbw.trans (((below_drewN hb1 nq).drew).mono hbs)).trans hb2⟩
            case measure => simp [intOf]; omega
    · have hkk : k = bl.length - 1 := by omega
      subst hkk
      go_wp2
      go_ret
      rw [HP.out]
      exact RetRd.of_own encR_len hown (hbl0.trans (hbw.mono hbs0))
end Go.Proofs
