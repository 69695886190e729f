/- The reference's steps. -/
import Derived.Test.YtcfhhkdjdpkjpaaXJ9
set_option linter.unusedVariables false
set_option linter.unusedSimpArgs false
namespace Go.Proofs
open Go.RowKit Go.Proofs.Mp Go.Lib

/-- what step tells of a list of at most one step -/
def tF : List (Nat × Nat) → Int
  | [] => -1
  | p :: _ => (p.1 : Int)
def tT : List (Nat × Nat) → Int
  | [] => -1
  | p :: _ => (p.2 : Int)
def tB : List (Nat × Nat) → Bool
  | [] => false
  | _ :: _ => true
theorem st3_tri (X : Nat → Bool) (N : Nat → Nat) : (st3 X N 3).1 = tF (triS (X 0) (X 1) (X 2) (N 0) (N 1) (N 2)) ∧ (st3 X N 3).2 = tT (triS (X 0) (X 1) (X 2) (N 0) (N 1) (N 2)) ∧ decide (0 ≤ (st3 X N 3).1) = tB (triS (X 0) (X 1) (X 2) (N 0) (N 1) (N 2)) := by
  unfold st3 st3 st3 st3 sideS
  dsimp only
  rw [show (0 + 1) % 3 = 1 from rfl, show (1 + 1) % 3 = 2 from rfl, show (2 + 1) % 3 = 0 from rfl]
  unfold triS
  cases X 0 <;> cases X 1 <;> cases X 2 <;> simp [tF, tT, tB]
def triT (a b c : Nat × Nat) : Nat → Nat × Nat
  | 0 => a
  | 1 => b
  | _ => c
def triI (a b c : Nat) : Nat → Nat
  | 0 => a
  | 1 => b
  | _ => c
theorem ref_tri (t : Ht) (W : Nat) (level : Int) (a b c : Nat × Nat) (i j k : Nat) (w : World) (hW : t.w = (W : Int)) (hW1 : W ≤ 64) (ha : a.1 ≤ 64 ∧ a.2 ≤ 64 ∧ a.2 * W + a.1 = i ∧ i < t.v.length) (hb : b.1 ≤ 64 ∧ b.2 ≤ 64 ∧ b.2 * W + b.1 = j ∧ j < t.v.length) (hc : c.1 ≤ 64 ∧ c.2 ≤ 64 ∧ c.2 * W + c.1 = k ∧ k < t.v.length) (hR : RdI w t.a t.v)
    (L : List (Nat × Nat)) (hL : triS (abv t level i) (abv t level j) (abv t level k) (numR W a b) (numR W b c) (numR W c a) = L) :
    Calls Try.prog 55 #[aggH t, .int .i64 level, .agg #[.int .i64 a.1, .int .i64 a.2, .int .i64 b.1, .int .i64 b.2, .int .i64 c.1, .int .i64 c.2]] w (RetV w (.tuple #[.int .i64 (tF L), .int .i64 (tT L), .bool (tB L)])) := by
  have h := ref_step t W level (triT a b c) (triI i j k) w hW hW1 (fun k => by match k with
    | 0 => exact ⟨ha.1, ha.2.1⟩
    | 1 => exact ⟨hb.1, hb.2.1⟩
    | _ + 2 => exact ⟨hc.1, hc.2.1⟩) (fun k => by match k with
    | 0 => exact ha.2.2
    | 1 => exact hb.2.2
    | _ + 2 => exact hc.2.2) hR
  obtain ⟨h1, h2, h3⟩ := st3_tri (fun k' => abv t level (triI i j k k')) (fun k' => numR W (triT a b c k') (triT a b c ((k' + 1) % 3)))
  rw [h3, h1, h2] at h
  have e : triS (abv t level (triI i j k 0)) (abv t level (triI i j k 1)) (abv t level (triI i j k 2)) (numR W (triT a b c 0) (triT a b c ((0 + 1) % 3))) (numR W (triT a b c 1) (triT a b c ((1 + 1) % 3))) (numR W (triT a b c 2) (triT a b c ((2 + 1) % 3))) = L := hL
  rw [e] at h
  exact h
/-- the steps of the lower or the upper triangle of a cell -/
def celS (ab : Nat → Bool) (W i : Nat) : Nat → List (Nat × Nat)
  | 0 => lowS ab W i
  | _ => uppS ab W i
theorem numR_xx (W c r : Nat) : numR W (c, r) (c + 1, r) = 3 * (r * W + c) ∧ numR W (c + 1, r) (c + 1, r + 1) = 3 * (r * W + c + 1) + 1 ∧ numR W (c + 1, r + 1) (c, r) = 3 * (r * W + c) + 2 ∧ numR W (c, r) (c + 1, r + 1) = 3 * (r * W + c) + 2 ∧ numR W (c + 1, r + 1) (c, r + 1) = 3 * (r * W + c + W) ∧ numR W (c, r + 1) (c, r) = 3 * (r * W + c) + 1 := by
  have hs : (r + 1) * W = r * W + W := Nat.succ_mul r W
  have q1 : ¬ (c + 1 < c) := by omega
  have q2 : ¬ (r + 1 < r) := by omega
  refine ⟨?_, ?_, ?_, ?_, ?_, ?_⟩ <;> unfold numR swN addN <;> simp [q1, q2] <;> omega
theorem ref_cel (t : Ht) (W H : Nat) (level : Int) (g : Grd t W H) (r c u : Nat) (hr : r + 1 < H) (hc : c + 1 < W) (w : World) (hR : RdI w t.a t.v) : ∃ cs : Array Value, 
    (∀ W' : World, Calls Try.prog 56 #[.int .i64 c, .int .i64 r, .int .i64 (if u = 0 then 0 else 1)] W' (RetV W' (.agg cs))) ∧
    ∀ W' : World, Below w.heap.size w W' → Calls Try.prog 55 #[aggH t, .int .i64 level, .agg cs] W' (RetV W' (.tuple #[.int .i64 (tF (celS (abv t level) W (r * W + c) u)), .int .i64 (tT (celS (abv t level) W (r * W + c) u)), .bool (tB (celS (abv t level) W (r * W + c) u))])) := by
  obtain ⟨a1, a2, a3, a4, a5, a6, _⟩ := g.all
  have hin := cell_in (W := W) (H := H) hr hc
  have hs : (r + 1) * W = r * W + W := Nat.succ_mul r W
  have k0 := ref_corners c r
  match u with
  | 0 =>
    refine ⟨_, fun W' => (k0 W' (by omega) (by omega)).1, fun W' hb => ?_⟩
    exact ref_tri t W level (c, r) (c + 1, r) (c + 1, r + 1) (r * W + c) (r * W + c + 1) (r * W + c + W + 1) W' g.w a2 (by dsimp only; omega) (by dsimp only; omega) (by dsimp only; omega) (hR.below hb) _ (by
      obtain ⟨n1, n2, n3, n4, n5, n6⟩ := numR_xx W c r
      rw [n1, n2, n3]
      rfl)
  | u + 1 =>
    refine ⟨_, fun W' => (k0 W' (by omega) (by omega)).2, fun W' hb => ?_⟩
    exact ref_tri t W level (c, r) (c + 1, r + 1) (c, r + 1) (r * W + c) (r * W + c + W + 1) (r * W + c + W) W' g.w a2 (by dsimp only; omega) (by dsimp only; omega) (by dsimp only; omega) (hR.below hb) _ (by
      obtain ⟨n1, n2, n3, n4, n5, n6⟩ := numR_xx W c r
      rw [n4, n5, n6]
      rfl)
/-- steps as pairs of integers -/
def stI (S : List (Nat × Nat)) : List (Int × Int) := S.map fun p => ((p.1 : Int), (p.2 : Int))
theorem stI_app (a b : List (Nat × Nat)) : stI (a ++ b) = stI a ++ stI b := by simp [stI]
theorem stI_len (a : List (Nat × Nat)) : (stI a).length = a.length := by simp [stI]
/-- the first u triangles of a cell -/
def celTo (ab : Nat → Bool) (W i : Nat) : Nat → List (Nat × Nat)
  | 0 => []
  | u + 1 => celTo ab W i u ++ celS ab W i u
theorem celS_len (ab : Nat → Bool) (W i : Nat) : ∀ u, (celS ab W i u).length ≤ 1
  | 0 => triS_len _ _ _ _ _ _
  | u + 1 => triS_len _ _ _ _ _ _
theorem celTo_len (ab : Nat → Bool) (W i : Nat) : ∀ u, (celTo ab W i u).length ≤ u
  | 0 => Nat.le_refl _
  | u + 1 => by
    unfold celTo
    rw [List.length_append]
    have := celTo_len ab W i u
    have := celS_len ab W i u
    omega
theorem Try.infoSt : (Try.prog.info? 82).map (fun i => (i.zero, i.size, i.bytes)) = some (some (.agg #[.int .i64 0, .int .i64 0]), 2, 16) := by kernel_rfl
theorem Try.appSt {w : World} {base : Nat} {v : Value} {xs : List Pt} {ops : Array Oper} {rest : List Oper} {o : Oper} {a : Act} {Q : Exit → Act → World → Prop}
    (hown : OwnR 82 w base v xs) (p : Pt) (hgd : o.guard = none) (s x : Operand)
    (ho : o.op = .call { callee := .builtin .append, args := #[s, x], argTypes := #[51, 51] }) (hs : a.eval s = v) (hx : a.eval x = .slice (some ⟨w.heap.size, 0, none⟩) 1 1)
    (hN : xs.length + 1 ≤ 1000000000000) (hbase : base ≤ w.heap.size)
    (h : ∀ v' w', OwnR 82 w' base v' (xs ++ [p]) → Below base w w' → wpList Try.prog ops Q rest (a.put o.dst v') w') :
    wpList Try.prog ops Q (o :: rest) a (w.alloc (.cells #[.int .i64 p.1, .int .i64 p.2] 82)) := by
  obtain ⟨i0, hi0, hz0, hz1, hz2⟩ := Mp.info_parts Try.infoSt
  exact Own.append1 51 i0 (.agg #[.int .i64 0, .int .i64 0]) 16 Try.underlying51 hi0 hz0 hz1 hz2 rfl (by decide) (by decide) encR_len encR_one hgd s x ho hown hs p hx (by omega) hbase h

set_option maxRecDepth 100000 in
set_option maxHeartbeats 8000000 in
theorem ref_steps (t : Ht) (W H : Nat) (level : Int) (w : World) (g : Grd t W H) (hR : RdI w t.a t.v) :
    Calls Try.prog 29 #[aggH t, .int .i64 level] w (RetR w (stI (stepsL (abv t level) W H))) := by
  obtain ⟨a1, a2, a3, a4, a5, a6, a7, a8, a9, a10, a11⟩ := g.all
  have hwt := g.w
  have hht := g.h
  have hb0 := bw1 w (.cells (celH t) 26)
  have hrow0 := RowH.new w t
  have hs0 : (w.alloc (.cells (celH t) 26)).heap.size = w.heap.size + 1 := by simp
  have HRow := Lib.hid fun (W' : World) (hb : Below (w.alloc (.cells (celH t) 26)).heap.size (w.alloc (.cells (celH t) 26)) W') => hrow0.below hb
  have HE := Lib.hid (show stepsL (abv t level) W H = stepsTo (abv t level) W (H - 1) from rfl)
  have HT0 := Lib.hid (show stepsTo (abv t level) W 0 = [] from rfl)
  have HTS := Lib.hid (show ∀ r, stepsTo (abv t level) W (r + 1) = stepsTo (abv t level) W r ++ rowS (abv t level) W r (W - 1) from fun _ => rfl)
  have HR0 := Lib.hid (show ∀ r, rowS (abv t level) W r 0 = [] from fun _ => rfl)
  have HRS := Lib.hid (show ∀ r c, rowS (abv t level) W r (c + 1) = rowS (abv t level) W r c ++ celTo (abv t level) W (r * W + c) 2 from fun r c => by
    show rowS (abv t level) W r c ++ lowS (abv t level) W (r * W + c) ++ uppS (abv t level) W (r * W + c) = rowS (abv t level) W r c ++ ([] ++ lowS (abv t level) W (r * W + c) ++ uppS (abv t level) W (r * W + c))
    simp)
  have HC0 := Lib.hid (show ∀ i, celTo (abv t level) W i 0 = [] from fun _ => rfl)
  have HCS := Lib.hid (show ∀ i u, celTo (abv t level) W i (u + 1) = celTo (abv t level) W i u ++ celS (abv t level) W i u from fun _ _ => rfl)
  have HL1 := Lib.hid fun r (hr : r ≤ 64) => (show (stepsTo (abv t level) W r).length ≤ 10000 from by
    have := stepsTo_len (abv t level) W r
    have h2 : 2 * (W - 1) * r ≤ 2 * 63 * 64 := Nat.mul_le_mul (Nat.mul_le_mul_left 2 (by omega)) hr
    omega)
  have HL2 := Lib.hid fun r c => rowS_len (abv t level) W r c
  have HCL := Lib.hid fun i u => celS_len (abv t level) W i u
  have HL3 := Lib.hid fun i u => celTo_len (abv t level) W i u
  have cC := Lib.hid fun r c u (hr : r + 1 < H) (hc : c + 1 < W) => ref_cel t W H level g r c u hr hc w hR
  have HB0 := Lib.hid hb0
  clear hrow0 hb0 hR a5 a6 a7 a8 a9 a10 a11
  generalize stepsL (abv t level) W H = SL at *
  generalize stepsTo (abv t level) W = T at *
  generalize rowS (abv t level) W = Ro at *
  generalize celTo (abv t level) W = Ce at *
  generalize celS (abv t level) W = Cs at *
  clear g
  obtain ⟨x, y, tw, th, st, A, cc, v⟩ := t
  unfold aggH celH at *
  dsimp only at *
  subst hwt hht
  have hWi : (W : Int) ≤ 64 := by omega
  have hHi : (H : Int) ≤ 64 := by omega
  have hW2 : (2 : Int) ≤ (W : Int) := by omega
  have hH2 : (2 : Int) ≤ (H : Int) := by omega
  go_enter Try.func29, Try.ntmps29
  go_upto_block 0 with fail
  generalize (w.alloc (.cells #[.int .i64 x, .int .i64 y, .int .i64 W, .int .i64 H, .int .i64 st, .slice A v.length cc] 26)) = w0 at *
  go_wp2_with fail
  go_loopw [5, 6] (fun s5 i wr => ∃ r : Nat, r ≤ H - 1 ∧ i = .int .i64 r ∧ OwnR 82 wr w0.heap.size s5 (stI (T r)) ∧ Below w0.heap.size w0 wr) (fun _ i _ => (H - 1) - (intOf i).toNat)
  case atStart => exact ⟨0, by omega, rfl, by rw [HT0.out]; exact Own.nil _ _, Below.refl _ _⟩
  case round =>
    obtain ⟨r, hr, rfl, ko, kb⟩ := hrel
    obtain ⟨r0, r1, r2, r3, r4, r5⟩ := (HRow.out _ kb).cells
    dsimp only at r0 r1 r2 r3 r4 r5
    have HO := Lib.hid ko
    have HB := Lib.hid kb
    clear ko kb
    generalize wr = wa at *
    by_cases hlt : r + 1 < H
    rotate_left
    · have hge : ¬ ((r : Int) + 1 < (H : Int)) := by omega
      have HE2 := Lib.hid (show SL = T r by rw [HE.out, show H - 1 = r by omega])
      have hsz0 := (show w.heap.size ≤ w0.heap.size by omega)
      go_wp2
      go_ret
      exact (RetRc.of_own encR_len (by rw [HE2.out]; exact HO.out) (HB0.out.trans (HB.out.mono hsz0))).rd
    · have hri : (r : Int) + 1 < (H : Int) := by omega
      go_wp2_with fail
      go_loopw [5, 7] (fun s5 j wx => ∃ c : Nat, c ≤ W - 1 ∧ j = .int .i64 c ∧ OwnR 82 wx w0.heap.size s5 (stI (T r ++ Ro r c)) ∧ Below w0.heap.size w0 wx) (fun _ j _ => (W - 1) - (intOf j).toNat)
      case atStart => exact ⟨0, by omega, rfl, by rw [HR0.out, List.append_nil]; exact HO.out, HB.out⟩
      case round =>
        clear HO HB r0 r1 r2 r3 r4 r5
        obtain ⟨c, hc, rfl, ko, kb⟩ := hrel
        obtain ⟨r0, r1, r2, r3, r4, r5⟩ := (HRow.out _ kb).cells
        dsimp only at r0 r1 r2 r3 r4 r5
        have HO := Lib.hid ko
        have HB := Lib.hid kb
        clear ko kb
        generalize wr = wb at *
        by_cases hlc : c + 1 < W
        rotate_left
        · have hge : ¬ ((c : Int) + 1 < (W : Int)) := by omega
          obtain rfl : c = W - 1 := by omega
          have HO2 := Lib.hid (show OwnR 82 wb w0.heap.size _ (stI (T (r + 1))) by rw [HTS.out]; exact HO.out)
          go_wp2
          go_roundw
          case rel => exact ⟨r + 1, by omega, by go_num, HO2.out, HB.out⟩
          case measure => simp [intOf]; omega
        · have hci : (c : Int) + 1 < (W : Int) := by omega
          go_wp2_with fail
          go_loopw [5, 8] (fun s5 j wx => ∃ u : Nat, u ≤ 2 ∧ j = .int .i64 u ∧ OwnR 82 wx w0.heap.size s5 (stI (T r ++ Ro r c ++ Ce (r * W + c) u)) ∧ Below w0.heap.size w0 wx) (fun _ j _ => 2 - (intOf j).toNat)
          case atStart => exact ⟨0, by omega, rfl, by rw [HC0.out, List.append_nil]; exact HO.out, HB.out⟩
          case round =>
            clear HO HB r0 r1 r2 r3 r4 r5
            obtain ⟨u, hu, rfl, ko, kb⟩ := hrel
            have HO := Lib.hid ko
            have HB := Lib.hid kb
            clear ko kb
            generalize wr = wd at *
            by_cases hlu : u < 2
            rotate_left
            · obtain rfl : u = 2 := by omega
              rw [show ((2 : Nat) : Int) = 2 from rfl]
              have HO2 := Lib.hid (show OwnR 82 wd w0.heap.size _ (stI (T r ++ Ro r (c + 1))) by rw [HRS.out, ← List.append_assoc]; exact HO.out)
              go_wp2
              go_roundw
              case rel => exact ⟨c + 1, by omega, by go_num, HO2.out, HB.out⟩
              case measure => simp [intOf]; omega
            · obtain ⟨cs, c1, c2⟩ := cC.out r c u hlt hlc
              have hui : (u : Int) < 2 := by omega
              rw [show (if u = 0 then (0 : Int) else 1) = (u : Int) by split <;> omega] at c1
              have cA := Lib.hid c1
              have cB := Lib.hid fun W' (hb : Below wd.heap.size wd W') => c2 W' (HB0.out.trans ((HB.out.trans (hb.mono HB.out.size)).mono HB0.out.size))
              have HRd := Lib.hid fun W' (hb : Below wd.heap.size wd W') => HRow.out W' (HB.out.trans (hb.mono HB.out.size))
              clear c1 c2
              have HCu := Lib.hid (HCS.out (r * W + c) u)
              have hl1 := HL1.out r (by omega)
              have hl2 := HL2.out r c
              have hl3 := HL3.out (r * W + c) u
              have HLn := Lib.hid (show (stI (T r ++ Ro r c ++ Ce (r * W + c) u)).length + 1 ≤ 1000000000000 by rw [stI_len, List.length_append, List.length_append]; omega)
              clear hl1 hl2 hl3
              have HLL := Lib.hid (HCL.out (r * W + c) u)
              generalize Cs (r * W + c) u = L at *
              go_upto_region 11 with fail
              have hS0 : (fun W' : World => Below wd.heap.size wd W') wd.drew := (Below.refl _ _).drew
              refine wp_region_held_drew (S := (fun W' : World => Below wd.heap.size wd W')) (by kernel_rfl) hS0 (fun hHeld => ?_)
              clear hHeld
              generalize wd.drew = wzra at *
              refine wpAnyH_take (i := 0) (oi := ⟨some 31, _, _, _, _, _⟩) (v := ?vra1) rfl (by kernel_rfl) (by kernel_rfl) (by kernel_rfl) (fun _ _ _ h => h) (Or.inl ⟨by kernel_rfl, ?hyra1⟩) (by assumption) ?restra1
              case hyra1 => (intro W hSw; obtain ⟨d0, d1, d2, d3, d4, d5⟩ := (HRd.out W hSw).cells; dsimp only at d0 d1 d2 d3 d4 d5; (try dsimp only at hSw); go_simp; try with_reducible rfl)
              case' restra1 => try simp only [Act.put, List.setIfInBounds_toArray, List.set_cons_zero, List.set_cons_succ]
              refine wpAnyH_take (i := 1) (oi := ⟨some 32, _, _, _, _, _⟩) (v := ?vra2) rfl (by kernel_rfl) (by kernel_rfl) (by kernel_rfl) (fun _ _ _ h => h) (Or.inl ⟨by kernel_rfl, ?hyra2⟩) (by assumption) ?restra2
              case hyra2 => (intro W hSw; (try dsimp only at hSw); go_simp; try with_reducible rfl)
              case' restra2 => try simp only [Act.put, List.setIfInBounds_toArray, List.set_cons_zero, List.set_cons_succ]
              refine wpAnyH_take (i := 2) (oi := ⟨some 33, _, _, _, _, _⟩) (v := ?vra3) rfl (by kernel_rfl) (by kernel_rfl) (by kernel_rfl) (fun _ _ _ h => h) (Or.inl ⟨by kernel_rfl, ?hyra3⟩) (by assumption) ?restra3
              case hyra3 => (intro W hSw; (try dsimp only at hSw); go_simp; try with_reducible rfl)
              case' restra3 => try simp only [Act.put, List.setIfInBounds_toArray, List.set_cons_zero, List.set_cons_succ]
              refine wpAnyH_take (i := 3) (oi := ⟨some 34, _, _, _, _, _⟩) (v := ?vra4) rfl (by kernel_rfl) (by kernel_rfl) (by kernel_rfl) (fun _ _ _ h => h) (Or.inl ⟨by kernel_rfl, ?hyra4⟩) (by assumption) ?restra4
              case hyra4 => (intro W hSw; (try dsimp only at hSw); go_simp; try with_reducible rfl)
              case' restra4 => try simp only [Act.put, List.setIfInBounds_toArray, List.set_cons_zero, List.set_cons_succ]
              refine wpAnyH_take (i := 4) (oi := ⟨some 35, _, _, _, _, _⟩) (v := ?vra5) rfl (by kernel_rfl) (by kernel_rfl) (by kernel_rfl) (fun _ _ _ h => h) (Or.inl ⟨by kernel_rfl, ?hyra5⟩) (by assumption) ?restra5
              case hyra5 => (intro W hSw; (try dsimp only at hSw); go_simp; try with_reducible rfl)
              case' restra5 => try simp only [Act.put, List.setIfInBounds_toArray, List.set_cons_zero, List.set_cons_succ]
              refine wpAnyH_ready (rs := [5]) (by kernel_rfl) (by simp) ?_
              refine AllReadyH.cons (o := ⟨some 36, _, _, _, _, _⟩) rfl (fun K hK => ?_) AllReadyH.nil
              go_simp
              go_at_call 56
              refine (cA.out wzra).mono ?_
              rintro e Wra1 ⟨rfl, hbWra1⟩
              have hSWra1 := hS0.trans (hbWra1.mono hS0.size)
              try clear hS0
              clear hbWra1
              go_wp2_with fail
              refine hK.out _ _ hSWra1 (fun hHeld => ?_)
              clear hK hHeld K
              try simp only [Act.put, List.setIfInBounds_toArray, List.set_cons_zero, List.set_cons_succ]
              refine wpAnyH_ready (rs := [6]) (by kernel_rfl) (by simp) ?_
              refine AllReadyH.cons (o := ⟨some 37, _, _, _, _, _⟩) rfl (fun K hK => ?_) AllReadyH.nil
              go_simp
              go_at_call 55
              refine (cB.out _ hSWra1).mono ?_
              rintro e Wra2 ⟨rfl, hbWra2⟩
              have hSWra2 := hSWra1.trans (hbWra2.mono hSWra1.size)
              try clear hSWra1
              clear hbWra2
              go_wp2_with fail
              refine hK.out _ _ hSWra2 (fun hHeld => ?_)
              clear hK hHeld K
              try simp only [Act.put, List.setIfInBounds_toArray, List.set_cons_zero, List.set_cons_succ]
              refine wpAnyH_take (i := 7) (oi := ⟨some 30, _, _, _, _, _⟩) (v := ?vra6) rfl (by kernel_rfl) (by kernel_rfl) (by kernel_rfl) (fun _ _ _ h => h) (Or.inl ⟨by kernel_rfl, ?hyra6⟩) (by assumption) ?restra6
              case hyra6 => (intro W hSw; (try dsimp only at hSw); go_simp; try with_reducible rfl)
              case' restra6 => try simp only [Act.put, List.setIfInBounds_toArray, List.set_cons_zero, List.set_cons_succ]
              refine wpAnyH_take (i := 8) (oi := ⟨some 38, _, _, _, _, _⟩) (v := ?vra7) rfl (by kernel_rfl) (by kernel_rfl) (by kernel_rfl) (fun _ _ _ h => h) (Or.inl ⟨by kernel_rfl, ?hyra7⟩) (by assumption) ?restra7
              case hyra7 => (intro W hSw; (try dsimp only at hSw); go_simp; try with_reducible rfl)
              case' restra7 => try simp only [Act.put, List.setIfInBounds_toArray, List.set_cons_zero, List.set_cons_succ]
              refine wpAnyH_take (i := 9) (oi := ⟨some 39, _, _, _, _, _⟩) (v := ?vra8) rfl (by kernel_rfl) (by kernel_rfl) (by kernel_rfl) (fun _ _ _ h => h) (Or.inl ⟨by kernel_rfl, ?hyra8⟩) (by assumption) ?restra8
              case hyra8 => (intro W hSw; (try dsimp only at hSw); go_simp; try with_reducible rfl)
              case' restra8 => try simp only [Act.put, List.setIfInBounds_toArray, List.set_cons_zero, List.set_cons_succ]
              refine wpAnyH_take (i := 10) (oi := ⟨some 40, _, _, _, _, _⟩) (v := ?vra9) rfl (by kernel_rfl) (by kernel_rfl) (by kernel_rfl) (fun _ _ _ h => h) (Or.inl ⟨by kernel_rfl, ?hyra9⟩) (by assumption) ?restra9
              case hyra9 => (intro W hSw; (try dsimp only at hSw); go_simp; try with_reducible rfl)
              case' restra9 => try simp only [Act.put, List.setIfInBounds_toArray, List.set_cons_zero, List.set_cons_succ]
              refine wpAnyH_take (i := 11) (oi := ⟨some 9, _, _, _, _, _⟩) (v := ?vra10) rfl (by kernel_rfl) (by kernel_rfl) (by kernel_rfl) (fun _ _ _ h => h) (Or.inl ⟨by kernel_rfl, ?hyra10⟩) (by assumption) ?restra10
              case hyra10 => (intro W hSw; (try dsimp only at hSw); go_simp; try with_reducible rfl)
              case' restra10 => try simp only [Act.put, List.setIfInBounds_toArray, List.set_cons_zero, List.set_cons_succ]
              refine wpAnyH_take (i := 12) (oi := ⟨some 10, _, _, _, _, _⟩) (v := ?vra11) rfl (by kernel_rfl) (by kernel_rfl) (by kernel_rfl) (fun _ _ _ h => h) (Or.inl ⟨by kernel_rfl, ?hyra11⟩) (by assumption) ?restra11
              case hyra11 => (intro W hSw; (try dsimp only at hSw); go_simp; try with_reducible rfl)
              case' restra11 => try simp only [Act.put, List.setIfInBounds_toArray, List.set_cons_zero, List.set_cons_succ]
              refine wpAnyH_take (i := 13) (oi := ⟨some 11, _, _, _, _, _⟩) (v := ?vra12) rfl (by kernel_rfl) (by kernel_rfl) (by kernel_rfl) (fun _ _ _ h => h) (Or.inl ⟨by kernel_rfl, ?hyra12⟩) (by assumption) ?restra12
              case hyra12 => (intro W hSw; (try dsimp only at hSw); go_simp; try with_reducible rfl)
              case' restra12 => try simp only [Act.put, List.setIfInBounds_toArray, List.set_cons_zero, List.set_cons_succ]
              refine wpAnyH_done (by kernel_rfl) ?_ _
              have HBx := Lib.hid (HB.out.trans (hSWra2.mono HB.out.size))
              have HOx := Lib.hid (HO.out.below hSWra2)
              clear hSWra2 HB HO cA cB HRd
              generalize Wra2 = we at *
              have hsz := HBx.out.size
              match L, HCu with
              | [], HCu =>
                have HO2 := Lib.hid (show OwnR 82 we w0.heap.size _ (stI (T r ++ Ro r c ++ Ce (r * W + c) (u + 1))) by rw [HCu.out, List.append_nil]; exact HOx.out)
                unfold tF tT tB
                dsimp only
                go_wp2
                go_roundw
                case rel => exact ⟨u + 1, by omega, by go_num, HO2.out, HBx.out⟩
                case measure => simp [intOf]; omega
              | p :: L', HCu =>
                have hL' : L' = [] := by
                  have := HLL.out
                  rw [List.length_cons] at this
                  exact List.length_eq_zero_iff.1 (by omega)
                subst hL'
                unfold tF tT tB
                dsimp only
                go_wp2_with (refine Try.appSt HOx.out ((p.1 : Int), (p.2 : Int)) rfl _ _ rfl rfl rfl HLn.out hsz ?_; intro v9 w9 ho9 hb9)
                have HO2 := Lib.hid (show OwnR 82 w9 w0.heap.size v9 (stI (T r ++ Ro r c ++ Ce (r * W + c) (u + 1))) by rw [HCu.out, ← List.append_assoc, stI_app (b := [p])]; exact ho9)
                have HB9 := Lib.hid (HBx.out.trans hb9)
                clear ho9 hb9
                go_roundw
                case rel => exact ⟨u + 1, by omega, by go_num, HO2.out, HB9.out⟩
                case measure => simp [intOf]; omega
end Go.Proofs
/- The reference's has, next, entered, chain and first. -/
set_option linter.unusedVariables false
set_option linter.unusedSimpArgs false
namespace Go.Proofs
open Go.RowKit Go.Proofs.Mp Go.Lib

set_option maxHeartbeats 2000000 in
theorem ref_has (xs : List Int) (n : Int) (A : Option Addr) (c : Nat) (w : World) (hR : RdI w A xs) (hl : xs.length ≤ 1000000000000) :
    Calls Try.prog 30 #[.slice A xs.length c, .int .i64 n] w (RetV w (.bool (decide (n ∈ xs)))) := by
  obtain ⟨d, hd⟩ : ∃ d, decide (n ∈ xs) = d := ⟨_, rfl⟩
  have HD := Lib.hid hd
  rw [hd]
  clear hd
  have HR := Lib.hid hR
  clear hR
  go_enter Try.func30, Try.ntmps30
  go_wp2_with fail
  go_loopw [5] (fun i wr => ∃ k q : Nat, k ≤ xs.length ∧ i = .int .i64 k ∧ w.drewN q = wr ∧ ∀ j, j < k → xs[j]! ≠ n) (fun i _ => xs.length - (intOf i).toNat)
  case atStart => exact ⟨0, 0, by omega, rfl, rfl, fun j hj => by omega⟩
  case round =>
    obtain ⟨k, q, hk, rfl, rfl, hall⟩ := hrel
    by_cases hlt : k < xs.length
    rotate_left
    · have hkn : xs.length = k := by omega
      subst hkn
      have hge : ¬ ((xs.length : Int) < (xs.length : Int)) := by omega
      obtain rfl : d = false := by
        rw [← HD.out]
        exact decide_eq_false fun h => by
          obtain ⟨j, hj, he⟩ := List.mem_iff_getElem.1 h
          exact hall j hj (by rw [getElem!_pos xs j hj]; exact he)
      clear hall
      go_wp2
      go_ret
      exact ⟨rfl, ⟨rfl, rfl, rfl, Nat.le_refl _, fun _ _ => rfl⟩⟩
    · have hli : (k : Int) < (xs.length : Int) := by omega
      obtain ⟨b, off, rfl, hbl, c1⟩ := RdI.get HR.out (Below.refl _ _) hlt
      have HM := Lib.hid (show xs[k]! ∈ xs by rw [getElem!_pos xs k hlt]; exact List.getElem_mem hlt)
      have HA := Lib.hid hall
      obtain ⟨z, hz⟩ : ∃ z, xs[k]! = z := ⟨_, rfl⟩
      have HZ := Lib.hid hz
      rw [hz] at c1 HM
      clear hz hall
      by_cases he : z = n
      · subst he
        obtain rfl : d = true := by rw [← HD.out]; exact decide_eq_true HM.out
        go_wp2
        go_ret
        exact ⟨rfl, ⟨rfl, rfl, rfl, Nat.le_refl _, fun _ _ => rfl⟩⟩
      · go_wp2
        go_roundw
        case rel => exact ⟨k + 1, q, by omega, by go_num, rfl, fun j hj => by
          by_cases e : j = k
          · rw [e, HZ.out]; exact he
          · exact HA.out j (by omega)⟩
        case measure => simp [intOf]; omega
theorem stI_get {S : List (Nat × Nat)} {k : Nat} (h : k < S.length) : (stI S)[k]! = ((S[k]!.1 : Int), (S[k]!.2 : Int)) := by
  rw [getElem!_pos (stI S) k (by rw [stI_len]; exact h), getElem!_pos S k h]
  simp [stI]
def nextV (S : List (Nat × Nat)) (e : Nat) : Int := match nx S e with
  | none => -1
  | some k => (k : Int)
theorem nx_at {S : List (Nat × Nat)} {e k : Nat} (hk : k < S.length) (h : S[k]!.1 = e) (hb : ∀ j, j < k → S[j]!.1 ≠ e) : nx S e = some S[k]!.2 := by
  unfold nx
  induction S generalizing k with
  | nil => simp at hk
  | cons p S ih =>
    rw [List.find?_cons]
    cases k with
    | zero =>
      have h' : p.1 = e := h
      rw [show (p.1 == e) = true by simp [h']]
      rfl
    | succ k =>
      have h0 : p.1 ≠ e := hb 0 (by omega)
      rw [show (p.1 == e) = false by simp [h0]]
      exact ih (k := k) (by simpa using hk) (by simpa using h) (fun j hj => by simpa using hb (j + 1) (by omega))
theorem nx_no {S : List (Nat × Nat)} {e : Nat} (hb : ∀ j, j < S.length → S[j]!.1 ≠ e) : nx S e = none := by
  unfold nx
  rw [Option.map_eq_none_iff, List.find?_eq_none]
  intro p hp
  obtain ⟨j, hj, rfl⟩ := List.mem_iff_getElem.1 hp
  have := hb j hj
  rw [getElem!_pos S j hj] at this
  simpa using this
set_option maxHeartbeats 2000000 in
theorem ref_next (S : List (Nat × Nat)) (e : Nat) (A : Option Addr) (c : Nat) (w : World) (hR : RdR w A (stI S)) (hl : S.length ≤ 1000000000000) :
    Calls Try.prog 58 #[.slice A S.length c, .int .i64 e] w (RetV w (.int .i64 (nextV S e))) := by
  have HV := Lib.hid (show nextV S e = match nx S e with | none => -1 | some k => (k : Int) from rfl)
  generalize nextV S e = r at *
  have HR := Lib.hid hR
  clear hR
  go_enter Try.func58, Try.ntmps58
  go_wp2_with fail
  go_loopw [5] (fun i wr => ∃ k q : Nat, k ≤ S.length ∧ i = .int .i64 k ∧ w.drewN q = wr ∧ ∀ j, j < k → S[j]!.1 ≠ e) (fun i _ => S.length - (intOf i).toNat)
  case atStart => exact ⟨0, 0, by omega, rfl, rfl, fun j hj => by omega⟩
  case round =>
    obtain ⟨k, q, hk, rfl, rfl, hall⟩ := hrel
    by_cases hlt : k < S.length
    rotate_left
    · have hkn : S.length = k := by omega
      have HF := Lib.hid (show r = -1 by rw [HV.out, nx_no (fun j hj => hall j (by omega))])
      subst hkn
      have hge : ¬ ((S.length : Int) < (S.length : Int)) := by omega
      clear hall
      go_wp2
      go_ret
      exact ⟨by rw [HF.out]; rfl, ⟨rfl, rfl, rfl, Nat.le_refl _, fun _ _ => rfl⟩⟩
    · have hli : (k : Int) < (S.length : Int) := by omega
      obtain ⟨b, off, rfl, hbl, c1, c2⟩ := RdR.get HR.out (Below.refl _ _) (j := k) (by rw [stI_len]; exact hlt)
      rw [stI_get hlt] at c1 c2
      have HA := Lib.hid hall
      have HN := Lib.hid fun h => nx_at hlt h hall
      obtain ⟨z1, hz⟩ : ∃ z, S[k]!.1 = z := ⟨_, rfl⟩
      obtain ⟨z2, hz2⟩ : ∃ z, S[k]!.2 = z := ⟨_, rfl⟩
      have HZ := Lib.hid hz
      rw [hz] at c1 HN
      rw [hz2] at c2 HN
      dsimp only at c1 c2
      clear hz hz2 hall
      by_cases he : z1 = e
      · subst he
        have HF := Lib.hid (show r = (z2 : Int) by rw [HV.out, HN.out rfl])
        go_wp2
        go_ret
        exact ⟨by rw [HF.out]; rfl, ⟨rfl, rfl, rfl, Nat.le_refl _, fun _ _ => rfl⟩⟩
      · have hei : ¬ ((z1 : Int) = (e : Int)) := by omega
        go_wp2
        go_roundw
        case rel => exact ⟨k + 1, q, by omega, by go_num, rfl, fun j hj => by
          by_cases e : j = k
          · rw [e, HZ.out]; exact he
          · exact HA.out j (by omega)⟩
        case measure => simp [intOf]; omega
set_option maxHeartbeats 2000000 in
theorem ref_entered (S : List (Nat × Nat)) (e : Nat) (A : Option Addr) (c : Nat) (w : World) (hR : RdR w A (stI S)) (hl : S.length ≤ 1000000000000) :
    Calls Try.prog 57 #[.slice A S.length c, .int .i64 e] w (RetV w (.bool (ran S e))) := by
  have HV := Lib.hid (show ran S e = S.any fun p => p.2 == e from rfl)
  generalize ran S e = r at *
  have HR := Lib.hid hR
  clear hR
  go_enter Try.func57, Try.ntmps57
  go_wp2_with fail
  go_loopw [5] (fun i wr => ∃ k q : Nat, k ≤ S.length ∧ i = .int .i64 k ∧ w.drewN q = wr ∧ ∀ j, j < k → S[j]!.2 ≠ e) (fun i _ => S.length - (intOf i).toNat)
  case atStart => exact ⟨0, 0, by omega, rfl, rfl, fun j hj => by omega⟩
  case round =>
    obtain ⟨k, q, hk, rfl, rfl, hall⟩ := hrel
    by_cases hlt : k < S.length
    rotate_left
    · have hkn : S.length = k := by omega
      obtain rfl : r = false := by
        rw [HV.out, List.any_eq_false]
        intro p hp
        obtain ⟨j, hj, rfl⟩ := List.mem_iff_getElem.1 hp
        have := hall j (by omega)
        rw [getElem!_pos S j hj] at this
        simpa using this
      subst hkn
      have hge : ¬ ((S.length : Int) < (S.length : Int)) := by omega
      clear hall
      go_wp2
      go_ret
      exact ⟨rfl, ⟨rfl, rfl, rfl, Nat.le_refl _, fun _ _ => rfl⟩⟩
    · have hli : (k : Int) < (S.length : Int) := by omega
      obtain ⟨b, off, rfl, hbl, c1, c2⟩ := RdR.get HR.out (Below.refl _ _) (j := k) (by rw [stI_len]; exact hlt)
      rw [stI_get hlt] at c1 c2
      have HA := Lib.hid hall
      have HM := Lib.hid (show S[k]! ∈ S by rw [getElem!_pos S k hlt]; exact List.getElem_mem hlt)
      obtain ⟨⟨z1, z2⟩, hz⟩ : ∃ z, S[k]! = z := ⟨_, rfl⟩
      have HZ := Lib.hid hz
      rw [hz] at c1 c2 HM
      dsimp only at c1 c2
      clear hz hall
      by_cases he : z2 = e
      · subst he
        obtain rfl : r = true := by rw [HV.out, List.any_eq_true]; exact ⟨_, HM.out, by simp⟩
        go_wp2
        go_ret
        exact ⟨rfl, ⟨rfl, rfl, rfl, Nat.le_refl _, fun _ _ => rfl⟩⟩
      · have hei : ¬ ((z2 : Int) = (e : Int)) := by omega
        go_wp2
        go_roundw
        case rel => exact ⟨k + 1, q, by omega, by go_num, rfl, fun j hj => by
          by_cases e : j = k
          · rw [e, HZ.out]; exact he
          · exact HA.out j (by omega)⟩
        case measure => simp [intOf]; omega

/-- a list of integers of its own has been returned -/
def RetOI (w : World) (xs : List Int) (e : Ending) (w' : World) : Prop := ∃ v, e = .returned v ∧ OwnI 3 w' w.heap.size v xs ∧ Below w.heap.size w w'
theorem RetOI.ri {w w' : World} {xs : List Int} {e : Ending} (h : RetOI w xs e w') : RetI w xs e w' := by
  obtain ⟨v, rfl, h1, h2⟩ := h
  exact (RetRc.of_own encI_len h1 h2).rd
set_option maxRecDepth 100000 in
set_option maxHeartbeats 4000000 in
theorem ref_chain (S : List (Nat × Nat)) (e : Nat) (A : Option Addr) (c : Nat) (w : World) (hS : Inj S) (hsm : Small S) (he : e ≤ 20000) (hR : RdR w A (stI S)) :
    Calls Try.prog 32 #[.slice A S.length c, .int .i64 e] w (RetOI w (ci (chain S e))) := by
  have hSl := hsm.1
  have cN := Lib.hid fun (k : Nat) (W' : World) (hb : Below w.heap.size w W') => ref_next S k A c W' (hR.below hb) (by omega)
  have hO0 : OwnI 3 (w.alloc (.cells #[.int .i64 e] 3)) w.heap.size (.slice (some ⟨w.heap.size, 0, none⟩) 1 1) (ci (wayL S e 0)) := own_lit1 w e
  have hB0 := bw1 w (.cells #[.int .i64 e] 3)
  have HNV := Lib.hid (show ∀ k, nextV S k = match nx S k with | none => -1 | some q => (q : Int) from fun _ => rfl)
  have hs0 : (w.alloc (.cells #[.int .i64 e] 3)).heap.size = w.heap.size + 1 := by simp
  clear hR
  go_enter Try.func32, Try.ntmps32
  go_upto_region 2 with fail
  generalize (w.alloc (.cells #[.int .i64 e] 3)) = w0 at *
  have HO0 := Lib.hid hO0
  have HB0 := Lib.hid hB0
  clear hO0 hB0
  go_wp2_with fail
  refine (cN.out e _ HB0.out).mono ?_
  rintro e1 w1 ⟨rfl, hb1⟩
  have HO1 := Lib.hid (HO0.out.below hb1)
  have HB1 := Lib.hid (HB0.out.trans (hb1.mono (by omega)))
  clear HO0 HB0 hb1
  generalize hnv : nextV S e = nv at *
  have HN0 := Lib.hid hnv
  clear hnv
  go_wp2_with fail
  go_loopw [5, 6] (fun s5 s6 wr => ∃ (j c : Nat) (k : Int), Hid (itr S e j = some c ∧ NoHome S e j) ∧ OwnI 3 wr w.heap.size s5 (ci (wayL S e j)) ∧ s6 = .int .i64 k ∧ nextV S c = k ∧ Below w.heap.size w wr) (fun v5 _ _ => S.length + 2 - lenOfV v5)
  case atStart => exact ⟨0, e, nv, ⟨rfl, fun i h1 h2 => by omega⟩, HO1.out, rfl, HN0.out, HB1.out⟩
  case round =>
    clear HO1 HB1 HN0
    obtain ⟨j, x, k, hF, ho, rfl, hk, hb⟩ := hrel
    have hwl2 : (ci (wayL S e j)).length = j + 1 := by rw [ci_len, wayL_len]
    have hjl := nohome_len hS hF.out.1 hF.out.2
    obtain ⟨A5, c5, rfl⟩ := Own.slice ho
    have HO := Lib.hid ho
    have HB := Lib.hid hb
    have HF := hF
    have hbs := hb.size
    clear ho hb hF
    rw [HNV.out] at hk
    have HWL := Lib.hid hwl2
    rw [hwl2] at HO ⊢
    clear hwl2
    generalize wr = wa at *
    cases hx : nx S x with
    | none =>
      rw [hx] at hk
      dsimp only at hk
      subst hk
      have HC := Lib.hid (chain_end hS HF.out.1 HF.out.2 hx)
      clear hx
      go_wp2
      go_ret
      exact ⟨_, rfl, by rw [HC.out]; exact HO.out, HB.out⟩
    | some q =>
      rw [hx] at hk
      dsimp only at hk
      subst hk
      have HX := Lib.hid hx
      clear hx
      have hql : q ≤ 20000 := (hsm.2 _ ((nx_mem hS).1 HX.out)).2
      have hq0 : (0 : Int) ≤ (q : Int) := by omega
      have HW1 := Lib.hid (show ci (wayL S e (j + 1)) = ci (wayL S e j) ++ [(q : Int)] by rw [wayL_next HF.out.1 HX.out, ci_app]; rfl)
      have hlx : (ci (wayL S e j)).length + 1 ≤ 1000000000000 := by rw [HWL.out]; omega
      have HL := Lib.hid hlx
      clear hlx
      by_cases hqe : q = e
      · subst hqe
        have HC := Lib.hid (chain_home hS HF.out.1 HF.out.2 HX.out)
        go_wp2_with (refine Try.appI HO.out (q : Int) rfl _ _ rfl rfl rfl HL.out hbs ?_; intro v9 w9 ho9 hb9)
        rw [← HW1.out] at ho9
        have HO9 := Lib.hid ho9
        have HB9 := Lib.hid (HB.out.trans hb9)
        clear ho9 hb9
        obtain ⟨A9, c9, rfl⟩ := Own.slice HO9.out
        go_wp2
        go_ret
        exact ⟨_, rfl, by rw [HC.out]; exact HO9.out, HB9.out⟩
      · have hqe' : ¬ ((q : Int) = (e : Int)) := by omega
        have HF1 := Lib.hid (show itr S e (j + 1) = some q ∧ NoHome S e (j + 1) from by
          have h1 : itr S e (j + 1) = some q := itr_succ.2 ⟨x, HF.out.1, HX.out⟩
          refine ⟨h1, fun i i1 i2 => ?_⟩
          rcases Nat.lt_or_ge i (j + 1) with g | g
          · exact HF.out.2 i i1 (by omega)
          · obtain rfl : i = j + 1 := by omega
            rw [h1]
            intro h
            injection h with h
            exact hqe h)
        go_wp2_with (refine Try.appI HO.out (q : Int) rfl _ _ rfl rfl rfl HL.out hbs ?_; intro v9 w9 ho9 hb9)
        have hv9 : ∃ A9 c9, v9 = .slice A9 (j + 2) c9 := by
          obtain ⟨A9, c9, h9⟩ := Own.slice ho9
          refine ⟨A9, c9, ?_⟩
          rw [h9, List.length_append, HWL.out]
          rfl
        rw [← HW1.out] at ho9
        obtain ⟨A9, c9, rfl⟩ := hv9
        have HO9 := Lib.hid ho9
        have HB9 := Lib.hid (HB.out.trans hb9)
        clear ho9 hb9
        generalize hnv : nextV S q = nv2 at *
        go_wp2_with fail
        have cN2 := cN.out q w9 HB9.out
        rw [hnv] at cN2
        refine cN2.mono ?_
        rintro e2 w2 ⟨rfl, hb2⟩
        have HO2 := Lib.hid (HO9.out.below hb2)
        have HB2 := Lib.hid (HB9.out.trans (hb2.mono HB9.out.size))
        have HN2 := Lib.hid hnv
        clear hb2 hnv cN2
        go_wp2
        go_roundw
        case rel => exact ⟨j + 1, q, nv2, HF1, HO2.out, rfl, HN2.out, HB2.out⟩
        case measure => show S.length + 2 - (j + 2) < S.length + 2 - (j + 1); omega

theorem ci_get {C : List Nat} {k : Nat} (h : k < C.length) : (ci C)[k]! = ((C[k]! : Nat) : Int) := by
  rw [getElem!_pos (ci C) k (by rw [ci_len]; exact h), getElem!_pos C k h]
  simp [ci]
theorem chain_len_le {S : List (Nat × Nat)} (hS : Inj S) (e : Nat) : (chain S e).length ≤ S.length + 2 := by
  obtain ⟨j, c, hc, hn, hl, hk | hk⟩ := chain_cases hS e
  · rw [chain_end hS hc hn hk, wayL_len]; omega
  · rw [chain_home hS hc hn hk, wayL_len]; omega
set_option maxRecDepth 100000 in
set_option maxHeartbeats 4000000 in
theorem ref_first (S : List (Nat × Nat)) (e : Nat) (A : Option Addr) (c : Nat) (w : World) (hS : Inj S) (hsm : Small S) (he : e ≤ 20000) (hR : RdR w A (stI S)) :
    Calls Try.prog 31 #[.slice A S.length c, .int .i64 e] w (RetV w (.bool (firstB S e))) := by
  have hSl := hsm.1
  have hlen := chain_len_le hS e
  have cE := Lib.hid (ref_entered S e A c w hR (by omega))
  have cC := Lib.hid fun (W' : World) (hb : Below w.heap.size w W') => (ref_chain S e A c W' hS hsm he (hR.below hb)).mono fun e w' h => RetOI.ri h
  have HV := Lib.hid (show firstB S e = (!ran S e || cycB S e) from rfl)
  have HCy := Lib.hid (show cycB S e = (decide (2 ≤ (chain S e).length) && decide ((chain S e)[(chain S e).length - 1]! = e) && (chain S e).all fun x => decide (e ≤ x)) from rfl)
  generalize firstB S e = r at *
  generalize ran S e = rn at *
  generalize cycB S e = cy at *
  generalize chain S e = C at *
  clear hR
  go_enter Try.func31, Try.ntmps31
  go_wp2_with fail
  refine cE.out.mono ?_
  rintro e1 w1 ⟨rfl, hb1⟩
  have HB1 := Lib.hid hb1
  clear hb1 cE
  cases rn
  · obtain rfl : r = true := by rw [HV.out]; rfl
    go_wp2
    go_ret
    exact ⟨rfl, HB1.out⟩
  · have HV2 := Lib.hid (show r = cy by rw [HV.out]; simp)
    clear HV
    go_wp2_with fail
    refine (cC.out w1 HB1.out).mono ?_
    rintro e2 w2 ⟨A2, c2, rfl, hv2, hb2⟩
    have HB2 := Lib.hid (HB1.out.trans (hb2.mono HB1.out.size))
    have HR2 := Lib.hid hv2
    clear hv2 hb2 cC HB1
    rw [ci_len]
    by_cases h2 : C.length < 2
    · have h2i : (C.length : Int) < 2 := by omega
      have HF := Lib.hid (show r = false by rw [HV2.out, HCy.out, decide_eq_false (show ¬ 2 ≤ C.length by omega)]; rfl)
      go_wp2
      go_ret
      exact ⟨by rw [HF.out]; rfl, HB2.out⟩
    · have h2i : ¬ (C.length : Int) < 2 := by omega
      have hlt1 : C.length - 1 < C.length := by omega
      obtain ⟨b, off, rfl, hbl, hc⟩ := RdI.getAll HR2.out (Below.refl _ _) (j := C.length - 1) (by rw [ci_len]; omega)
      have HCl := Lib.hid fun j (hj : j < C.length) => (show w2.cell? ⟨b, off + j, none⟩ = some (.int .i64 ((C[j]! : Nat) : Int)) from by rw [← ci_get hj]; exact hc j (by rw [ci_len]; exact hj))
      have c1 := HCl.out (C.length - 1) hlt1
      have hln : ((C.length : Int) - 1) = ((C.length - 1 : Nat) : Int) := by omega
      clear hc
      obtain ⟨z, hz⟩ : ∃ z, C[C.length - 1]! = z := ⟨_, rfl⟩
      have HZ := Lib.hid hz
      rw [hz] at c1
      clear hz
      have hi0 : (0 : Int) ≤ ((C.length - 1 : Nat) : Int) := by omega
      have hi1 : ((C.length - 1 : Nat) : Int) < (C.length : Int) := by omega
      by_cases hze : z = e
      rotate_left
      · have hzi : ¬ (z : Int) = (e : Int) := by omega
        have hzn : ((z : Int) != (e : Int)) = true := by rw [bne_iff_ne]; exact hzi
        have HF := Lib.hid (show r = false by rw [HV2.out, HCy.out, HZ.out, decide_eq_false hze]; simp)
        go_wp2
        go_ret
        exact ⟨by rw [HF.out]; rfl, HB2.out⟩
      · subst hze
        have HF := Lib.hid (show r = C.all fun x => decide (z ≤ x) by rw [HV2.out, HCy.out, HZ.out, decide_eq_true rfl, decide_eq_true (show 2 ≤ C.length by omega)]; rfl)
        go_upto_block 0 with fail
        clear c1
        go_wp2_with fail
        go_loopw [6] (fun i wr => ∃ k q : Nat, k ≤ C.length ∧ i = .int .i64 k ∧ w2.drewN q = wr ∧ ∀ j, j < k → z ≤ C[j]!) (fun i _ => C.length - (intOf i).toNat)
        case atStart => exact ⟨0, 0, by omega, rfl, rfl, fun j hj => by omega⟩
        case round =>
          obtain ⟨k, q, hk, rfl, rfl, hall⟩ := hrel
          by_cases hlt : k < C.length
          rotate_left
          · have hkn : C.length = k := by omega
            have HT := Lib.hid (show r = true by
              rw [HF.out, List.all_eq_true]
              intro x hx
              obtain ⟨j, hj, rfl⟩ := List.mem_iff_getElem.1 hx
              have := hall j (by omega)
              rw [getElem!_pos C j hj] at this
              exact decide_eq_true this)
            subst hkn
            have hge : ¬ ((C.length : Int) < (C.length : Int)) := by omega
            clear hall
            go_wp2
            go_ret
            exact ⟨by rw [HT.out]; rfl, ⟨HB2.out.os, HB2.out.tape, HB2.out.output, HB2.out.size, HB2.out.block⟩⟩
          · have hli : (k : Int) < (C.length : Int) := by omega
            have c1 := HCl.out k hlt
            have HA := Lib.hid hall
            have HM := Lib.hid (show C[k]! ∈ C by rw [getElem!_pos C k hlt]; exact List.getElem_mem hlt)
            obtain ⟨y, hy⟩ : ∃ z, C[k]! = z := ⟨_, rfl⟩
            have HY := Lib.hid hy
            rw [hy] at c1 HM
            clear hy hall
            by_cases hyz : y < z
            · have hyi : (y : Int) < (z : Int) := by omega
              have HT := Lib.hid (show r = false by
                rw [HF.out, List.all_eq_false]
                exact ⟨y, HM.out, by simp; omega⟩)
              go_wp2
              go_ret
              exact ⟨by rw [HT.out]; rfl, ⟨HB2.out.os, HB2.out.tape, HB2.out.output, HB2.out.size, HB2.out.block⟩⟩
            · have hyi : ¬ (y : Int) < (z : Int) := by omega
              go_wp2
              go_roundw
              case rel => exact ⟨k + 1, q, by omega, by go_num, rfl, fun j hj => by
                by_cases e : j = k
                · rw [e, HY.out]; omega
                · exact HA.out j (by omega)⟩
              case measure => simp [intOf]; omega
end Go.Proofs
