/- Errata, the program's. -/
import Derived.Test.YtnckglojbhlekaaQ16
import Derived.Deep.CutBlock
set_option linter.unusedVariables false
set_option linter.unusedSimpArgs false
namespace Go.Proofs
open Go.RowKit Go.Proofs.Mp

/-- the value v is a slice that reads as the products xs, at most six, their plates light -/
def SlP (w : World) (v : Value) (xs : List Pd) : Prop :=
  ∃ A c, v = .slice A xs.length c ∧ xs.length ≤ c ∧ xs.length ≤ 6 ∧ Rd 19 encQ w A xs ∧ ∀ x ∈ xs, Few4 x.p 200 ∧ Rd4 w x.p
theorem SlP.below {w w' : World} {v : Value} {xs : List Pd} (h : SlP w v xs) (hb : Below w.heap.size w w') : SlP w' v xs := by
  obtain ⟨A, c, rfl, h1, h2, hR, hP⟩ := h
  exact ⟨A, c, rfl, h1, h2, hR.below hb, fun x hx => ⟨(hP x hx).1, (hP x hx).2.below hb⟩⟩
/-- its first product, and what stands behind it -/
theorem SlP.head {w : World} {v : Value} {x : Pd} {xs : List Pd} (h : SlP w v (x :: xs)) :
    ∃ b off c off', v = .slice (some ⟨b, off, none⟩) (xs.length + 1) c ∧ xs.length + 1 ≤ c ∧ xs.length + 1 ≤ 6 ∧ (∀ W, Below w.heap.size w W → W.rangeAt b off (encQ x)) ∧ Few4 x.p 200 ∧ Rd4 w x.p
      ∧ Hid (off' = if c = 1 then off else off + 19) ∧ SlP w (.slice (some ⟨b, off', none⟩) xs.length (c - 1)) xs := by
  obtain ⟨A, c, rfl, h1, h2, hR, hP⟩ := h
  obtain ⟨b, off, rfl, hb, hc⟩ := hR.at_ (j := 0) (by simp)
  have hx := hP x (by simp)
  refine ⟨b, off, c, _, rfl, h1, h2, fun W hW j v hv => ?_, hx.1, hx.2, Lib.hid rfl, _, _, rfl, ?_, ?_, ?_, fun y hy => hP y (by simp [hy])⟩
  · have := hc 0 (by simp) j v (by simpa using hv)
    rw [← this]
    simp only [Nat.zero_mul, Nat.add_zero]
    exact hW.cell (p := ⟨b, off + j, none⟩) hb
  · simp at h1; omega
  · simp at h2; omega
  · rcases xs with _ | ⟨y, ys⟩
    · exact Rd.nil _
    · have hn : ¬ c = 1 := by simp at h1; omega
      rw [if_neg hn]
      have := Rd.drop hR (by simp) 1
      simpa [Addr.add] using this
theorem SlP.nil {w : World} {v : Value} (h : SlP w v []) : ∃ A c, v = .slice A 0 c := by
  obtain ⟨A, c, rfl, _⟩ := h
  exact ⟨A, c, rfl⟩
def lenOf : Value → Nat
  | .slice _ n _ => n
  | _ => 0
theorem Try.appAllD {w : World} {base : Nat} {v u : Value} {xs ys : List Df} {ops : Array Oper} {rest : List Oper} {o : Oper} {a : Act} {Q : Exit → Act → World → Prop}
    (hown : Own 65 5 encD w base v xs) (hR : SlD w u ys) (hgd : o.guard = none) (s x : Operand)
    (ho : o.op = .call { callee := .builtin .append, args := #[s, x], argTypes := #[46, 46] }) (hs : a.eval s = v) (hx : a.eval x = u)
    (hN : xs.length + ys.length ≤ 1000000000) (hbase : base ≤ w.heap.size)
    (h : ∀ v' w', Own 65 5 encD w' base v' (xs ++ ys) → Below base w w' → wpList Try.prog ops Q rest (a.put o.dst v') w') :
    wpList Try.prog ops Q (o :: rest) a w := by
  obtain ⟨i0, hi, hz0, hz1, hz2⟩ := Mp.info_parts Try.infoD
  obtain ⟨B, c, rfl, _, hRd⟩ := hR
  exact wpList_plain hgd fun _ hK => Own.wpAll 46 i0 (.agg #[.int .i64 0, .int .i64 0, .int .i64 0, .int .i64 0, .int .i64 0]) 40 Try.underlying46 hi hz0 hz1 hz2 rfl (by decide) (by decide) encD_len encD_one s x ho hown hs hRd hx (by omega) hbase (fun v' w' h1 h2 => hK _ _ (h v' w' h1 h2))
theorem mg00 : mg [] [] = [] := by rw [mg]
theorem mg10 (x : Pd) (X : List Pd) : mg (x :: X) [] = .one x :: mg X [] := by rw [mg]
theorem mg01 (y : Pd) (Y : List Pd) : mg [] (y :: Y) = .one y :: mg [] Y := by rw [mg]
theorem mgL {x y : Pd} (X Y : List Pd) (h : x.s < y.s) : mg (x :: X) (y :: Y) = .one x :: mg X (y :: Y) := by rw [mg, if_pos h]
theorem mgR {x y : Pd} (X Y : List Pd) (h : y.s < x.s) : mg (x :: X) (y :: Y) = .one y :: mg (x :: X) Y := by rw [mg, if_neg (by omega), if_pos h]
theorem mgB {x y : Pd} (X Y : List Pd) (h : x.s = y.s) : mg (x :: X) (y :: Y) = .two x y :: mg X Y := by rw [mg, if_neg (by omega), if_neg (by omega)]
theorem ev_err {s : St} {l t : List St} {r : Int} (h : stE s = r) (hr : r ≠ 0) (he : evE t = evE (s :: l)) : evE t = r ∧ evL t = [] := by
  have e : evE t = r := by rw [he]; show (if stE s ≠ 0 then stE s else evE l) = r; rw [h, if_pos hr]
  exact ⟨e, by unfold evL; rw [e, if_neg hr]⟩
theorem ev_ok {s : St} {l : List St} (h : stE s = 0) : evE (s :: l) = evE l := by show (if stE s ≠ 0 then stE s else evE l) = evE l; rw [h, if_neg (by omega)]
theorem ev_app (s : St) (l : List St) (L : List Df) : L ++ evA (s :: l) = (L ++ stD s) ++ evA l := by
  show L ++ (stD s ++ evA l) = _
  rw [List.append_assoc]
theorem stD_len (s : St) : (stD s).length ≤ 65536 := by
  cases s with
  | one x => show (whL x.s x.p).length ≤ _; unfold whL; split <;> simp
  | two x y =>
    show (shL x.s y.s x.p y.p).length ≤ _
    unfold shL
    split
    · rw [List.length_map]; exact bxR_len _ _
    · simp
theorem Try.exec59 {o : Oper} {a : Act} {w : World} (q : Pd) (x : Operand) (ho : o.op = .load 59 x)
    (b off : Nat) (hx : a.eval x = .pointer (some ⟨b, off, none⟩)) (hc : w.rangeAt b off (encQ q)) : (execOp a.eval o).run Try.prog w = .ok (.value (aggQ q.s q.p)) w := by
  rcases yieldsIf_load_mid (P := Try.prog) (ops := #[]) (S := fun W => W = w) (op := { o with guard := none }) (a := a) (by simp [Region.wanted]) 59 x ho b off hx (encQ q) _ (fun W hW => hW ▸ hc) Try.underlying59 rfl Try.size59 with ⟨_, h⟩ | ⟨h, _⟩
  · have := h w rfl
    unfold execOp at this ⊢
    exact this
  · simp [Region.wanted] at h
theorem Try.execS41 {o : Oper} {a : Act} {w : World} (x : Operand) (ho : o.op = .slice 41 x (some (.const (.int .i64 1))) none none)
    (b off n c off' : Nat) (hof : Hid (off' = if c = 1 then off else off + 19)) (hx : a.eval x = .slice (some ⟨b, off, none⟩) (n + 1) c) (hc : n + 1 ≤ c) : (execOp a.eval o).run Try.prog w = .ok (.value (.slice (some ⟨b, off', none⟩) n (c - 1))) w := by
  have hs : (sizeOf 59).run Try.prog w = .ok 19 w := by
    have := Try.size59
    cases hq : Try.prog.info? 59 with
    | none => simp [hq] at this
    | some i => simp [hq] at this; simp [sizeOf, typeInfo, hq, this]
  have he : Try.prog.elem 41 = 59 := by kernel_rfl
  have hu : Try.prog.underlying 41 = some (.slice (Try.prog.elem 41)) := by rw [he]; exact Try.underlying41
  unfold execOp
  simp only [ho]
  have h1 := run_slice_l (P := Try.prog) w 41 (some ⟨b, off, none⟩) (n + 1) c hu .i64 1 (by omega) (by omega)
  have h2 := run_sliceAt_slice (P := Try.prog) w 41 (.slice (some ⟨b, off, none⟩) (n + 1) c) (some (.int .i64 1)) none none hu
  have hcst : a.eval (.const (.int .i64 1)) = .int .i64 1 := rfl
  simp [hx, h2, h1, he, hs, sliced, Result.andThen, hcst]
  rw [hof.out]
  by_cases hc1 : c = 1
  · simp [hc1]
  · simp [hc1, Addr.add]
theorem Try.slice41 {ops : Array Oper} {rest : List Oper} {o : Oper} {a : Act} {Q : Exit → Act → World → Prop} {w : World} (hgd : o.guard = none) (x : Operand) (ho : o.op = .slice 41 x (some (.const (.int .i64 1))) none none)
    (b off n c off' : Nat) (hof : Hid (off' = if c = 1 then off else off + 19)) (hx : a.eval x = .slice (some ⟨b, off, none⟩) (n + 1) c) (hc : n + 1 ≤ c)
    (h : wpList Try.prog ops Q rest (a.put o.dst (.slice (some ⟨b, off', none⟩) n (c - 1))) w) : wpList Try.prog ops Q (o :: rest) a w :=
  wpList_plain hgd fun _ hK => by
    unfold Oper.wp
    rw [Try.execS41 x ho b off n c off' hof hx hc]
    exact hK _ _ h
/-- what one round's switch leaves -/
def Swi (w w3 : World) (X Y : List Pd) (L : List Df) (l e x y n : Value) (wc : World) : Prop :=
  ∃ (st : St) (X' Y' : List Pd), e = .int .i64 (stE st) ∧ SlP w x X' ∧ SlP w y Y' ∧ SlD wc n (stD st) ∧ mg X Y = st :: mg X' Y' ∧ X'.length + Y'.length < X.length + Y.length ∧ X'.length + Y'.length ≤ 12 ∧ Own 65 5 encD wc w3.heap.size l L ∧ Below w3.heap.size w3 wc
theorem lenOf_P {w : World} {v : Value} {xs : List Pd} (h : SlP w v xs) : lenOf v = xs.length := by obtain ⟨A, c, rfl, _⟩ := h; rfl
def aggE (v : Value) : Value := .agg #[.int .i64 0, v, .slice none 0 0]

set_option maxRecDepth 100000 in
set_option maxHeartbeats 8000000 in
theorem proof_errata (u v : Value) (xs ys : List Pd) (w : World) (hx : SlP w u xs) (hy : SlP w v ys) : Calls Try.prog 19 #[aggE u, aggE v] w (DifPost (erE xs ys) (erL xs ys) w) := by
  have HX := Lib.hid hx
  have HY := Lib.hid hy
  have CA := Lib.hid (fun (W : World) (hb : Below w.heap.size w W) => by
    obtain ⟨A, c, e, _, h2, hR, _⟩ := HX.out
    exact (e ▸ proof_ascending A c xs W (by omega) (hR.below hb) : Calls Try.prog 32 #[u] W (RetV W (.bool (ascB (shs xs))))))
  have CB := Lib.hid (fun (W : World) (hb : Below w.heap.size w W) => by
    obtain ⟨A, c, e, _, h2, hR, _⟩ := HY.out
    exact (e ▸ proof_ascending A c ys W (by omega) (hR.below hb) : Calls Try.prog 32 #[v] W (RetV W (.bool (ascB (shs ys))))))
  clear hx hy
  unfold aggE
  have k0 : Below w.heap.size w ((w.alloc (.cells #[.int .i64 0, u, .slice none 0 0] 44)).alloc (.cells #[.int .i64 0, v, .slice none 0 0] 44)) := (bw1 _ _).alloc (by simp) _
  have hs0 : ((w.alloc (.cells #[.int .i64 0, u, .slice none 0 0] 44)).alloc (.cells #[.int .i64 0, v, .slice none 0 0] 44)).heap.size = w.heap.size + 2 := by simp
  have hu1 : u.oneCell' = true := by obtain ⟨A, c, e, _⟩ := HX.out; rw [e]; rfl
  have hv1 : v.oneCell' = true := by obtain ⟨A, c, e, _⟩ := HY.out; rw [e]; rfl
  obtain ⟨p, hp⟩ : ∃ p, ascB (shs xs) = p := ⟨_, rfl⟩
  obtain ⟨q, hq⟩ : ∃ q, ascB (shs ys) = q := ⟨_, rfl⟩
  rw [hp] at CA
  rw [hq] at CB
  have HP := Lib.hid hp
  have HQ := Lib.hid hq
  clear hp hq
  go_enter Try.func19, Try.ntmps19
  go_wp2_with fail
  refine (CA.out _ k0).mono ?_
  rintro e w1 ⟨rfl, hb1⟩
  have k1 := k0.trans (hb1.mono k0.size)
  have hs1 := hb1.size
  rw [hs0] at hs1
  cases p
  · have HE : Hid (erE xs ys = 10 ∧ erL xs ys = []) := Lib.hid ⟨by unfold erE; rw [if_neg (by rw [HP.out]; simp)], by unfold erL; rw [if_neg (by rw [HP.out]; simp)]⟩
    go_wp2
    go_ret2
    exact difPost_err HE.out.1 (by omega) HE.out.2 k1
  have c1 : w1.cell? ⟨w.heap.size + 1, 1, none⟩ = some v := (hb1.cell (p := ⟨w.heap.size + 1, 1, none⟩) (by show w.heap.size + 1 < _; rw [hs0]; omega)).trans (by simp)
  have c0 : w1.cell? ⟨w.heap.size, 1, none⟩ = some u := (hb1.cell (p := ⟨w.heap.size, 1, none⟩) (by show w.heap.size < _; rw [hs0]; omega)).trans (by simp)
  go_wp2_with fail
  refine (CB.out _ k1).mono ?_
  rintro e w2 ⟨rfl, hb2⟩
  have k2 := k1.trans (hb2.mono k1.size)
  cases q
  · have HE : Hid (erE xs ys = 10 ∧ erL xs ys = []) := Lib.hid ⟨by unfold erE; rw [if_neg (by rw [HQ.out]; simp)], by unfold erL; rw [if_neg (by rw [HQ.out]; simp)]⟩
    go_wp2
    go_ret2
    exact difPost_err HE.out.1 (by omega) HE.out.2 k2
  have d1 : w2.cell? ⟨w.heap.size + 1, 1, none⟩ = some v := (hb2.cell (p := ⟨w.heap.size + 1, 1, none⟩) (by show w.heap.size + 1 < w1.heap.size; omega)).trans c1
  have d0 : w2.cell? ⟨w.heap.size, 1, none⟩ = some u := (hb2.cell (p := ⟨w.heap.size, 1, none⟩) (by show w.heap.size < w1.heap.size; omega)).trans c0
  clear c0 c1
  have HE : Hid (erE xs ys = evE (mg xs ys) ∧ erL xs ys = evL (mg xs ys)) := Lib.hid ⟨by unfold erE; rw [if_pos ⟨HP.out, HQ.out⟩], by unfold erL; rw [if_pos ⟨HP.out, HQ.out⟩]⟩
  go_wp2
  go_quiet (fail)
  go_wp2_with fail
  generalize hW : w2.drewN _ = w3 at *
  have k3 : Below w.heap.size w w3 := hW ▸ k2.trans (below_drewN (Below.refl _ _) _)
  clear hW d0 d1
  go_loopw [4, 5, 6, 7, 8] (fun l e x y n wr => ∃ (X Y : List Pd) (L : List Df), e = .int .i64 0 ∧ SlP w x X ∧ SlP w y Y ∧ Own 65 5 encD wr w3.heap.size l L ∧ L.length + 65536 * (X.length + Y.length) ≤ 65536 * 12 ∧ evE (mg xs ys) = evE (mg X Y) ∧ evA (mg xs ys) = L ++ evA (mg X Y) ∧ Below w3.heap.size w3 wr) (fun _ _ x y _ _ => lenOf x + lenOf y)
  case atStart => exact ⟨xs, ys, [], rfl, HX.out, HY.out, Own.nil w3 _, (by obtain ⟨_, _, _, _, h6, _⟩ := HX.out; obtain ⟨_, _, _, _, h7, _⟩ := HY.out; simp; omega), rfl, rfl, Below.refl _ _⟩
  case round =>
    obtain ⟨X, Y, L, rfl, hX, hY, hown, hL, hE, hA, hbw⟩ := hrel
    have kk := k3.trans (hbw.mono k3.size)
    rcases X with _ | ⟨x, X1⟩
    · rcases Y with _ | ⟨y, Y1⟩
      · obtain ⟨A, ca, rfl⟩ := hX.nil
        obtain ⟨B, cb, rfl⟩ := hY.nil
        have HA : Hid (evA (mg xs ys) = L) := Lib.hid (by rw [hA, mg00]; simp [evA])
        have HEE : Hid (evE (mg xs ys) = 0) := Lib.hid (by rw [hE, mg00]; rfl)
        clear hA hE hL
        as_aux_lemma =>
          go_wp2
          go_ret2
          exact ⟨_, by rw [HE.out.1, HEE.out]; rfl, by rw [HE.out.2]; unfold evL; rw [HEE.out, if_pos rfl, HA.out]; exact slD_own hown, kk⟩
      · have hl12 : ([] : List Pd).length + (y :: Y1).length ≤ 12 := by obtain ⟨_, _, _, _, h6, _⟩ := hY; simp at h6 ⊢; omega
        obtain ⟨A, ca, rfl⟩ := hX.nil
        obtain ⟨ppy, offy, cy, offy', rfl, hcy, hcy6, hray, hfy, hrdy, hofy, hTy⟩ := hY.head
        have e1y : ((Y1.length : Int) + 1 == 0) = false := by rw [beq_eq_false_iff_ne]; omega

        have HE1 := Lib.hid hE
        have HA1 := Lib.hid hA
        have HL1 := Lib.hid hL
        clear hE hA hL HX HY CA CB
        go_upto_block 2 with fail
        go_cut [5, 6, 7, 8] from 31 to 97 (fun s5 s6 s7 s8 wc => Swi w w3 [] (y :: Y1) L u4 s5 s6 s7 s8 wc)
        case first =>
          as_aux_lemma =>
            have hS0 : (fun W : World => Below w3.heap.size w3 W) wr.drew := hbw.drew
            go_wp2_with fail
            refine wp_region_held_drew (S := fun W : World => Below w3.heap.size w3 W) (by kernel_rfl) hS0 (fun hHeld => ?_)
            clear hHeld
            refine wpAnyH_take (i := 0) (oi := ⟨some 46, _, _, _, _, _⟩) (v := ?vqa1) rfl (by kernel_rfl) (by kernel_rfl) (by kernel_rfl) (fun _ _ _ h => h) (Or.inl ⟨by kernel_rfl, ?hyqa1⟩) (by assumption) ?restqa1
            case hyqa1 => (intro W hSw; (try dsimp only at hSw); go_simp; try with_reducible rfl)
            case' restqa1 => try simp only [Act.put, List.setIfInBounds_toArray, List.set_cons_zero, List.set_cons_succ]
            refine wpAnyH_take (i := 1) (oi := ⟨some 47, _, _, _, _, _⟩) (v := ?vqa2) rfl (by kernel_rfl) (by kernel_rfl) (by kernel_rfl) (fun _ _ _ h => h) (Or.inl ⟨by kernel_rfl, ?hyqa2⟩) (by assumption) ?restqa2
            case hyqa2 => (intro W hSw; (try dsimp only at hSw); go_simp; try with_reducible rfl)
            case' restqa2 => try simp only [Act.put, List.setIfInBounds_toArray, List.set_cons_zero, List.set_cons_succ]
            refine wpAnyH_take (i := 2) (oi := ⟨some 48, _, _, _, _, _⟩) (v := ?vqa3) rfl (by kernel_rfl) (by kernel_rfl) (by kernel_rfl) (fun _ _ _ h => h) (Or.inl ⟨by kernel_rfl, ?hyqa3⟩) (by assumption) ?restqa3
            case hyqa3 => (intro W hSw; (try dsimp only at hSw); go_simp; try with_reducible rfl)
            case' restqa3 => try simp only [Act.put, List.setIfInBounds_toArray, List.set_cons_zero, List.set_cons_succ]
            refine wpAnyH_take (i := 3) (oi := ⟨some 49, _, _, _, _, _⟩) (v := ?vqa4) rfl (by kernel_rfl) (by kernel_rfl) (by kernel_rfl) (fun _ _ _ h => h) (Or.inl ⟨by kernel_rfl, ?hyqa4⟩) (by assumption) ?restqa4
            case hyqa4 => (intro W hSw; (try dsimp only at hSw); go_simp; try with_reducible rfl)
            case' restqa4 => try simp only [Act.put, List.setIfInBounds_toArray, List.set_cons_zero, List.set_cons_succ]
            refine wpAnyH_take (i := 4) (oi := ⟨some 50, _, _, _, _, _⟩) (v := ?vqa5) rfl (by kernel_rfl) (by kernel_rfl) (by kernel_rfl) (fun _ _ _ h => h) (Or.inl ⟨by kernel_rfl, ?hyqa5⟩) (by assumption) ?restqa5
            case hyqa5 => (intro W hSw; (try dsimp only at hSw); go_simp; try with_reducible rfl)
            case' restqa5 => try simp only [Act.put, List.setIfInBounds_toArray, List.set_cons_zero, List.set_cons_succ]
            refine wpAnyH_take (i := 5) (oi := ⟨some 51, _, _, _, _, _⟩) (v := ?vqa6) rfl (by kernel_rfl) (by kernel_rfl) (by kernel_rfl) (fun _ _ _ h => h) (Or.inl ⟨by kernel_rfl, ?hyqa6⟩) (by assumption) ?restqa6
            case hyqa6 => (intro W hSw; (try dsimp only at hSw); go_simp; try with_reducible rfl)
            case' restqa6 => try simp only [Act.put, List.setIfInBounds_toArray, List.set_cons_zero, List.set_cons_succ]
            refine wpAnyH_take (i := 6) (oi := ⟨some 52, _, _, _, _, _⟩) (v := ?vqa7) rfl (by kernel_rfl) (by kernel_rfl) (by kernel_rfl) (fun _ _ _ h => h) (Or.inl ⟨by kernel_rfl, ?hyqa7⟩) (by assumption) ?restqa7
            case hyqa7 => (intro W hSw; (try dsimp only at hSw); go_simp; try with_reducible rfl)
            case' restqa7 => try simp only [Act.put, List.setIfInBounds_toArray, List.set_cons_zero, List.set_cons_succ]
            refine wpAnyH_take (i := 7) (oi := ⟨some 53, _, _, _, _, _⟩) (v := ?vqa8) rfl (by kernel_rfl) (by kernel_rfl) (by kernel_rfl) (fun _ _ _ h => h) (Or.inl ⟨by kernel_rfl, ?hyqa8⟩) (by assumption) ?restqa8
            case hyqa8 => (intro W hSw; (try dsimp only at hSw); go_simp; try with_reducible rfl)
            case' restqa8 => try simp only [Act.put, List.setIfInBounds_toArray, List.set_cons_zero, List.set_cons_succ]
            refine wpAnyH_take (i := 8) (oi := ⟨some 54, _, _, _, _, _⟩) (v := undef) rfl (by kernel_rfl) (by kernel_rfl) (by kernel_rfl) (fun _ _ _ h => h) (Or.inr ⟨by kernel_rfl, rfl⟩) (by assumption) ?restqa9
            case' restqa9 => try simp only [Act.put, List.setIfInBounds_toArray, List.set_cons_zero, List.set_cons_succ]
            refine wpAnyH_take (i := 9) (oi := ⟨some 55, _, _, _, _, _⟩) (v := undef) rfl (by kernel_rfl) (by kernel_rfl) (by kernel_rfl) (fun _ _ _ h => h) (Or.inr ⟨by kernel_rfl, rfl⟩) (by assumption) ?restqa10
            case' restqa10 => try simp only [Act.put, List.setIfInBounds_toArray, List.set_cons_zero, List.set_cons_succ]
            refine wpAnyH_take (i := 10) (oi := ⟨some 56, _, _, _, _, _⟩) (v := undef) rfl (by kernel_rfl) (by kernel_rfl) (by kernel_rfl) (fun _ _ _ h => h) (Or.inr ⟨by kernel_rfl, rfl⟩) (by assumption) ?restqa11
            case' restqa11 => try simp only [Act.put, List.setIfInBounds_toArray, List.set_cons_zero, List.set_cons_succ]
            refine wpAnyH_take (i := 11) (oi := ⟨some 57, _, _, _, _, _⟩) (v := undef) rfl (by kernel_rfl) (by kernel_rfl) (by kernel_rfl) (fun _ _ _ h => h) (Or.inr ⟨by kernel_rfl, rfl⟩) (by assumption) ?restqa12
            case' restqa12 => try simp only [Act.put, List.setIfInBounds_toArray, List.set_cons_zero, List.set_cons_succ]
            refine wpAnyH_take (i := 12) (oi := ⟨some 58, _, _, _, _, _⟩) (v := undef) rfl (by kernel_rfl) (by kernel_rfl) (by kernel_rfl) (fun _ _ _ h => h) (Or.inr ⟨by kernel_rfl, rfl⟩) (by assumption) ?restqa13
            case' restqa13 => try simp only [Act.put, List.setIfInBounds_toArray, List.set_cons_zero, List.set_cons_succ]
            refine wpAnyH_take (i := 13) (oi := ⟨some 59, _, _, _, _, _⟩) (v := undef) rfl (by kernel_rfl) (by kernel_rfl) (by kernel_rfl) (fun _ _ _ h => h) (Or.inr ⟨by kernel_rfl, rfl⟩) (by assumption) ?restqa14
            case' restqa14 => try simp only [Act.put, List.setIfInBounds_toArray, List.set_cons_zero, List.set_cons_succ]
            refine wpAnyH_take (i := 14) (oi := ⟨some 60, _, _, _, _, _⟩) (v := undef) rfl (by kernel_rfl) (by kernel_rfl) (by kernel_rfl) (fun _ _ _ h => h) (Or.inr ⟨by kernel_rfl, rfl⟩) (by assumption) ?restqa15
            case' restqa15 => try simp only [Act.put, List.setIfInBounds_toArray, List.set_cons_zero, List.set_cons_succ]
            refine wpAnyH_take (i := 15) (oi := ⟨some 61, _, _, _, _, _⟩) (v := undef) rfl (by kernel_rfl) (by kernel_rfl) (by kernel_rfl) (fun _ _ _ h => h) (Or.inr ⟨by kernel_rfl, rfl⟩) (by assumption) ?restqa16
            case' restqa16 => try simp only [Act.put, List.setIfInBounds_toArray, List.set_cons_zero, List.set_cons_succ]
            refine wpAnyH_take (i := 16) (oi := ⟨some 62, _, _, _, _, _⟩) (v := undef) rfl (by kernel_rfl) (by kernel_rfl) (by kernel_rfl) (fun _ _ _ h => h) (Or.inr ⟨by kernel_rfl, rfl⟩) (by assumption) ?restqa17
            case' restqa17 => try simp only [Act.put, List.setIfInBounds_toArray, List.set_cons_zero, List.set_cons_succ]
            refine wpAnyH_take (i := 17) (oi := ⟨some 63, _, _, _, _, _⟩) (v := ?vqa18) rfl (by kernel_rfl) (by kernel_rfl) (by kernel_rfl) (fun _ _ _ h => h) (Or.inl ⟨by kernel_rfl, ?hyqa18⟩) (by assumption) ?restqa18
            case hyqa18 => (intro W hSw; (try dsimp only at hSw); go_simp; try with_reducible rfl)
            case' restqa18 => try simp only [Act.put, List.setIfInBounds_toArray, List.set_cons_zero, List.set_cons_succ]
            refine wpAnyH_take (i := 18) (oi := ⟨some 64, _, _, _, _, _⟩) (v := ?vqa19) rfl (by kernel_rfl) (by kernel_rfl) (by kernel_rfl) (fun _ _ _ h => h) (Or.inl ⟨by kernel_rfl, ?hyqa19⟩) (by assumption) ?restqa19
            case hyqa19 => (intro W hSw; (try dsimp only at hSw); go_simp; try with_reducible rfl)
            case' restqa19 => try simp only [Act.put, List.setIfInBounds_toArray, List.set_cons_zero, List.set_cons_succ]
            refine wpAnyH_take (i := 19) (oi := ⟨some 45, _, _, _, _, _⟩) (v := ?vqa20) rfl (by kernel_rfl) (by kernel_rfl) (by kernel_rfl) (fun _ _ _ h => h) (Or.inl ⟨by kernel_rfl, ?hyqa20⟩) (by assumption) ?restqa20
            case hyqa20 => (intro W hSw; (try dsimp only at hSw); go_simp; try with_reducible rfl)
            case' restqa20 => try simp only [Act.put, List.setIfInBounds_toArray, List.set_cons_zero, List.set_cons_succ]
            refine wpAnyH_done (by kernel_rfl) ?_ _
            skip
            go_wp2_with fail
            have hS1 : (fun W : World => Below w3.heap.size w3 W) wr.drew.drew := hbw.drew.drew
            refine wp_region_held_drew (S := fun W : World => Below w3.heap.size w3 W) (by kernel_rfl) hS1 (fun hHeld => ?_)
            clear hHeld
            refine wpAnyH_take (i := 0) (oi := ⟨some 75, _, _, _, _, _⟩) (v := ?vra1) rfl (by kernel_rfl) (by kernel_rfl) (by kernel_rfl) (fun _ _ _ h => h) (Or.inl ⟨by kernel_rfl, ?hyra1⟩) (by assumption) ?restra1
            case hyra1 => (intro W hSw; (try dsimp only at hSw); go_simp; try with_reducible rfl)
            case' restra1 => try simp only [Act.put, List.setIfInBounds_toArray, List.set_cons_zero, List.set_cons_succ]
            refine wpAnyH_take (i := 1) (oi := ⟨some 76, _, _, _, _, _⟩) (v := ?vra2) rfl (by kernel_rfl) (by kernel_rfl) (by kernel_rfl) (fun _ _ _ h => h) (Or.inl ⟨by kernel_rfl, ?hyra2⟩) (by assumption) ?restra2
            case hyra2 => (intro W hSw; (try dsimp only at hSw); go_simp; try with_reducible rfl)
            case' restra2 => try simp only [Act.put, List.setIfInBounds_toArray, List.set_cons_zero, List.set_cons_succ]
            refine wpAnyH_take (i := 2) (oi := ⟨some 77, _, _, _, _, _⟩) (v := ?vra3) rfl (by kernel_rfl) (by kernel_rfl) (by kernel_rfl) (fun _ _ _ h => h) (Or.inl ⟨by kernel_rfl, ?hyra3⟩) (by assumption) ?restra3
            case hyra3 => (intro W hSw; (try dsimp only at hSw); go_simp; try with_reducible rfl)
            case' restra3 => try simp only [Act.put, List.setIfInBounds_toArray, List.set_cons_zero, List.set_cons_succ]
            refine wpAnyH_take (i := 3) (oi := ⟨some 78, _, _, _, _, _⟩) (v := ?vra4) rfl (by kernel_rfl) (by kernel_rfl) (by kernel_rfl) (fun _ _ _ h => h) (Or.inl ⟨by kernel_rfl, ?hyra4⟩) (by assumption) ?restra4
            case hyra4 => (intro W hSw; (try dsimp only at hSw); go_simp; try with_reducible rfl)
            case' restra4 => try simp only [Act.put, List.setIfInBounds_toArray, List.set_cons_zero, List.set_cons_succ]
            refine wpAnyH_take (i := 4) (oi := ⟨some 79, _, _, _, _, _⟩) (v := undef) rfl (by kernel_rfl) (by kernel_rfl) (by kernel_rfl) (fun _ _ _ h => h) (Or.inr ⟨by kernel_rfl, rfl⟩) (by assumption) ?restra5
            case' restra5 => try simp only [Act.put, List.setIfInBounds_toArray, List.set_cons_zero, List.set_cons_succ]
            refine wpAnyH_take (i := 5) (oi := ⟨some 80, _, _, _, _, _⟩) (v := undef) rfl (by kernel_rfl) (by kernel_rfl) (by kernel_rfl) (fun _ _ _ h => h) (Or.inr ⟨by kernel_rfl, rfl⟩) (by assumption) ?restra6
            case' restra6 => try simp only [Act.put, List.setIfInBounds_toArray, List.set_cons_zero, List.set_cons_succ]
            refine wpAnyH_take (i := 6) (oi := ⟨some 81, _, _, _, _, _⟩) (v := undef) rfl (by kernel_rfl) (by kernel_rfl) (by kernel_rfl) (fun _ _ _ h => h) (Or.inr ⟨by kernel_rfl, rfl⟩) (by assumption) ?restra7
            case' restra7 => try simp only [Act.put, List.setIfInBounds_toArray, List.set_cons_zero, List.set_cons_succ]
            refine wpAnyH_take (i := 7) (oi := ⟨some 82, _, _, _, _, _⟩) (v := undef) rfl (by kernel_rfl) (by kernel_rfl) (by kernel_rfl) (fun _ _ _ h => h) (Or.inr ⟨by kernel_rfl, rfl⟩) (by assumption) ?restra8
            case' restra8 => try simp only [Act.put, List.setIfInBounds_toArray, List.set_cons_zero, List.set_cons_succ]
            refine wpAnyH_take (i := 8) (oi := ⟨some 83, _, _, _, _, _⟩) (v := undef) rfl (by kernel_rfl) (by kernel_rfl) (by kernel_rfl) (fun _ _ _ h => h) (Or.inr ⟨by kernel_rfl, rfl⟩) (by assumption) ?restra9
            case' restra9 => try simp only [Act.put, List.setIfInBounds_toArray, List.set_cons_zero, List.set_cons_succ]
            refine wpAnyH_take (i := 9) (oi := ⟨some 84, _, _, _, _, _⟩) (v := undef) rfl (by kernel_rfl) (by kernel_rfl) (by kernel_rfl) (fun _ _ _ h => h) (Or.inr ⟨by kernel_rfl, rfl⟩) (by assumption) ?restra10
            case' restra10 => try simp only [Act.put, List.setIfInBounds_toArray, List.set_cons_zero, List.set_cons_succ]
            refine wpAnyH_take (i := 10) (oi := ⟨some 85, _, _, _, _, _⟩) (v := undef) rfl (by kernel_rfl) (by kernel_rfl) (by kernel_rfl) (fun _ _ _ h => h) (Or.inr ⟨by kernel_rfl, rfl⟩) (by assumption) ?restra11
            case' restra11 => try simp only [Act.put, List.setIfInBounds_toArray, List.set_cons_zero, List.set_cons_succ]
            refine wpAnyH_take (i := 11) (oi := ⟨some 86, _, _, _, _, _⟩) (v := undef) rfl (by kernel_rfl) (by kernel_rfl) (by kernel_rfl) (fun _ _ _ h => h) (Or.inr ⟨by kernel_rfl, rfl⟩) (by assumption) ?restra12
            case' restra12 => try simp only [Act.put, List.setIfInBounds_toArray, List.set_cons_zero, List.set_cons_succ]
            refine wpAnyH_take (i := 12) (oi := ⟨some 87, _, _, _, _, _⟩) (v := undef) rfl (by kernel_rfl) (by kernel_rfl) (by kernel_rfl) (fun _ _ _ h => h) (Or.inr ⟨by kernel_rfl, rfl⟩) (by assumption) ?restra13
            case' restra13 => try simp only [Act.put, List.setIfInBounds_toArray, List.set_cons_zero, List.set_cons_succ]
            refine wpAnyH_take (i := 13) (oi := ⟨some 88, _, _, _, _, _⟩) (v := ?vra14) rfl (by kernel_rfl) (by kernel_rfl) (by kernel_rfl) (fun _ _ _ h => h) (Or.inl ⟨by kernel_rfl, ?hyra14⟩) (by assumption) ?restra14
            case hyra14 => (intro W hSw; (try dsimp only at hSw); go_simp; try with_reducible rfl)
            case' restra14 => try simp only [Act.put, List.setIfInBounds_toArray, List.set_cons_zero, List.set_cons_succ]
            refine wpAnyH_take (i := 14) (oi := ⟨some 74, _, _, _, _, _⟩) (v := ?vra15) rfl (by kernel_rfl) (by kernel_rfl) (by kernel_rfl) (fun _ _ _ h => h) (Or.inl ⟨by kernel_rfl, ?hyra15⟩) (by assumption) ?restra15
            case hyra15 => (intro W hSw; (try dsimp only at hSw); go_simp; try with_reducible rfl)
            case' restra15 => try simp only [Act.put, List.setIfInBounds_toArray, List.set_cons_zero, List.set_cons_succ]
            refine wpAnyH_done (by kernel_rfl) ?_ _
            skip
            have od : Own 65 5 encD wr.drew.drew w3.heap.size u4 L := hown.below (Below.refl _ _).drew.drew
            have hrd2 := hray wr.drew.drew (k3.trans (hbw.drew.drew.mono k3.size))
            go_wp2_with (refine Try.load59 y rfl _ rfl ppy offy rfl hrd2 ?_)
            have kd : Below w3.heap.size w3 wr.drew.drew := hbw.drew.drew
            generalize wr.drew.drew = wd at *
            have kw := k3.trans (kd.mono k3.size)
            refine (proof_single y.s y.p wd hfy (hrdy.below kw)).mono ?_
            rintro e w4 ⟨vd, rfl, hSD, hb4⟩
            have kd4 := kd.trans (hb4.mono kd.size)
            have o4 := od.below hb4
            clear od hrd2
            go_wp2_with (refine Try.slice41 rfl _ rfl ppy offy Y1.length cy offy' hofy rfl hcy ?_)
            go_meet
            exact ⟨.one y, [], Y1, rfl, hX, hTy, hSD, mg01 y Y1, by simp, by simp at hl12 ⊢; omega, o4, kd4⟩

        case rest =>
          as_aux_lemma =>
            obtain ⟨st, X', Y', rfl, hX', hY', hSD, hmg, hdec, h12, hown', hbc⟩ := hcut
            clear hown hbw kk
            have HM := Lib.hid hmg
            have HD := Lib.hid hdec
            clear hmg hdec
            have kc := k3.trans (hbc.mono k3.size)
            have hlen := stD_len st
            have hLL := HL1.out
            have hsz := hbc.size
            simp only [List.length_nil, List.length_cons] at hLL
            obtain ⟨r, hr⟩ : ∃ r, stE st = r := ⟨_, rfl⟩
            rw [hr]
            have HR := Lib.hid hr
            clear hr
            by_cases hz : r = 0
            · subst hz
              have hN : L.length + (stD st).length ≤ 1000000000 := by omega
              have HLEN := Lib.hid hlen
              have HLL := Lib.hid hLL
              clear hlen hLL
              go_wp2_with (at_builtin; refine Try.appAllD hown' hSD rfl _ _ rfl rfl rfl hN hsz ?_; intro v2 w2 hown2 hb2)
              go_roundw
              case rel => exact ⟨X', Y', L ++ stD st, rfl, hX', hY', hown2, (by have h1 := HLEN.out; have h2 := HLL.out; have h3 := HD.out; simp only [List.length_nil, List.length_cons] at h3; rw [List.length_append]; omega), (by rw [HE1.out, HM.out, ev_ok HR.out]), (by rw [HA1.out, HM.out, ev_app]), hbc.trans hb2⟩
              case measure => (rw [lenOf_P hX', lenOf_P hY']; have h3 := HD.out; simp only [List.length_nil, List.length_cons] at h3; show _ < 0 + (Y1.length + 1); omega)
            · have hrb : (r != 0) = true := by simp [hz]
              have hrc : (r == 0) = false := by simp [hz]
              have HZ := Lib.hid hz
              clear hz
              go_wp2
              go_ret2
              exact difPost_err (by rw [HE.out.1, (ev_err HR.out HZ.out (by rw [HE1.out, HM.out])).1]) HZ.out (by rw [HE.out.2, (ev_err HR.out HZ.out (by rw [HE1.out, HM.out])).2]) kc

    · have hl12 : (x :: X1).length + Y.length ≤ 12 := by obtain ⟨_, _, _, _, h6, _⟩ := hX; obtain ⟨_, _, _, _, h7, _⟩ := hY; simp at h6 h7 ⊢; omega
      have hXX := hX
      obtain ⟨ppx, offx, cx, offx', rfl, hcx, hcx6, hrax, hfx, hrdx, hofx, hTx⟩ := hX.head
      have e1x : ((X1.length : Int) + 1 == 0) = false := by rw [beq_eq_false_iff_ne]; omega

      have HE1 := Lib.hid hE
      have HA1 := Lib.hid hA
      have HL1 := Lib.hid hL
      clear hE hA hL HX HY CA CB
      have g0 : decide ((0 : Int) < (X1.length : Int) + 1) = true := decide_eq_true (by omega)
      have g1 : decide ((X1.length : Int) + 1 = 0) = false := decide_eq_false (by omega)
      go_upto_block 2 with fail
      go_cut [5, 6, 7, 8] from 31 to 97 (fun s5 s6 s7 s8 wc => Swi w w3 (x :: X1) Y L u4 s5 s6 s7 s8 wc)
      case first =>
        rcases Y with _ | ⟨y, Y1⟩
        · obtain ⟨B, cb, rfl⟩ := hY.nil
          as_aux_lemma =>
            have hS0 : (fun W : World => Below w3.heap.size w3 W) wr.drew := hbw.drew
            go_wp2_with fail
            refine wp_region_held_drew (S := fun W : World => Below w3.heap.size w3 W) (by kernel_rfl) hS0 (fun hHeld => ?_)
            clear hHeld
            refine wpAnyH_take (i := 0) (oi := ⟨some 46, _, _, _, _, _⟩) (v := ?vqb1) rfl (by kernel_rfl) (by kernel_rfl) (by kernel_rfl) (fun _ _ _ h => h) (Or.inl ⟨by kernel_rfl, ?hyqb1⟩) (by assumption) ?restqb1
            case hyqb1 => (intro W hSw; (try dsimp only at hSw); go_simp; try with_reducible rfl)
            case' restqb1 => try simp only [Act.put, List.setIfInBounds_toArray, List.set_cons_zero, List.set_cons_succ]
            refine wpAnyH_take (i := 1) (oi := ⟨some 47, _, _, _, _, _⟩) (v := ?vqb2) rfl (by kernel_rfl) (by kernel_rfl) (by kernel_rfl) (fun _ _ _ h => h) (Or.inl ⟨by kernel_rfl, ?hyqb2⟩) (by assumption) ?restqb2
            case hyqb2 => (intro W hSw; (try dsimp only at hSw); go_simp; try with_reducible rfl)
            case' restqb2 => try simp only [Act.put, List.setIfInBounds_toArray, List.set_cons_zero, List.set_cons_succ]
            refine wpAnyH_take (i := 2) (oi := ⟨some 48, _, _, _, _, _⟩) (v := ?vqb3) rfl (by kernel_rfl) (by kernel_rfl) (by kernel_rfl) (fun _ _ _ h => h) (Or.inl ⟨by kernel_rfl, ?hyqb3⟩) (by assumption) ?restqb3
            case hyqb3 => (intro W hSw; (try dsimp only at hSw); go_simp; try with_reducible rfl)
            case' restqb3 => try simp only [Act.put, List.setIfInBounds_toArray, List.set_cons_zero, List.set_cons_succ]
            refine wpAnyH_take (i := 3) (oi := ⟨some 49, _, _, _, _, _⟩) (v := ?vqb4) rfl (by kernel_rfl) (by kernel_rfl) (by kernel_rfl) (fun _ _ _ h => h) (Or.inl ⟨by kernel_rfl, ?hyqb4⟩) (by assumption) ?restqb4
            case hyqb4 => (intro W hSw; (try dsimp only at hSw); go_simp; try with_reducible rfl)
            case' restqb4 => try simp only [Act.put, List.setIfInBounds_toArray, List.set_cons_zero, List.set_cons_succ]
            refine wpAnyH_take (i := 4) (oi := ⟨some 50, _, _, _, _, _⟩) (v := undef) rfl (by kernel_rfl) (by kernel_rfl) (by kernel_rfl) (fun _ _ _ h => h) (Or.inr ⟨by kernel_rfl, rfl⟩) (by assumption) ?restqb5
            case' restqb5 => try simp only [Act.put, List.setIfInBounds_toArray, List.set_cons_zero, List.set_cons_succ]
            refine wpAnyH_take (i := 5) (oi := ⟨some 51, _, _, _, _, _⟩) (v := undef) rfl (by kernel_rfl) (by kernel_rfl) (by kernel_rfl) (fun _ _ _ h => h) (Or.inr ⟨by kernel_rfl, rfl⟩) (by assumption) ?restqb6
            case' restqb6 => try simp only [Act.put, List.setIfInBounds_toArray, List.set_cons_zero, List.set_cons_succ]
            refine wpAnyH_take (i := 6) (oi := ⟨some 52, _, _, _, _, _⟩) (v := undef) rfl (by kernel_rfl) (by kernel_rfl) (by kernel_rfl) (fun _ _ _ h => h) (Or.inr ⟨by kernel_rfl, rfl⟩) (by assumption) ?restqb7
            case' restqb7 => try simp only [Act.put, List.setIfInBounds_toArray, List.set_cons_zero, List.set_cons_succ]
            refine wpAnyH_take (i := 7) (oi := ⟨some 53, _, _, _, _, _⟩) (v := undef) rfl (by kernel_rfl) (by kernel_rfl) (by kernel_rfl) (fun _ _ _ h => h) (Or.inr ⟨by kernel_rfl, rfl⟩) (by assumption) ?restqb8
            case' restqb8 => try simp only [Act.put, List.setIfInBounds_toArray, List.set_cons_zero, List.set_cons_succ]
            refine wpAnyH_take (i := 8) (oi := ⟨some 54, _, _, _, _, _⟩) (v := undef) rfl (by kernel_rfl) (by kernel_rfl) (by kernel_rfl) (fun _ _ _ h => h) (Or.inr ⟨by kernel_rfl, rfl⟩) (by assumption) ?restqb9
            case' restqb9 => try simp only [Act.put, List.setIfInBounds_toArray, List.set_cons_zero, List.set_cons_succ]
            refine wpAnyH_take (i := 9) (oi := ⟨some 55, _, _, _, _, _⟩) (v := undef) rfl (by kernel_rfl) (by kernel_rfl) (by kernel_rfl) (fun _ _ _ h => h) (Or.inr ⟨by kernel_rfl, rfl⟩) (by assumption) ?restqb10
            case' restqb10 => try simp only [Act.put, List.setIfInBounds_toArray, List.set_cons_zero, List.set_cons_succ]
            refine wpAnyH_take (i := 10) (oi := ⟨some 56, _, _, _, _, _⟩) (v := undef) rfl (by kernel_rfl) (by kernel_rfl) (by kernel_rfl) (fun _ _ _ h => h) (Or.inr ⟨by kernel_rfl, rfl⟩) (by assumption) ?restqb11
            case' restqb11 => try simp only [Act.put, List.setIfInBounds_toArray, List.set_cons_zero, List.set_cons_succ]
            refine wpAnyH_take (i := 11) (oi := ⟨some 57, _, _, _, _, _⟩) (v := undef) rfl (by kernel_rfl) (by kernel_rfl) (by kernel_rfl) (fun _ _ _ h => h) (Or.inr ⟨by kernel_rfl, rfl⟩) (by assumption) ?restqb12
            case' restqb12 => try simp only [Act.put, List.setIfInBounds_toArray, List.set_cons_zero, List.set_cons_succ]
            refine wpAnyH_take (i := 12) (oi := ⟨some 58, _, _, _, _, _⟩) (v := undef) rfl (by kernel_rfl) (by kernel_rfl) (by kernel_rfl) (fun _ _ _ h => h) (Or.inr ⟨by kernel_rfl, rfl⟩) (by assumption) ?restqb13
            case' restqb13 => try simp only [Act.put, List.setIfInBounds_toArray, List.set_cons_zero, List.set_cons_succ]
            refine wpAnyH_take (i := 13) (oi := ⟨some 59, _, _, _, _, _⟩) (v := undef) rfl (by kernel_rfl) (by kernel_rfl) (by kernel_rfl) (fun _ _ _ h => h) (Or.inr ⟨by kernel_rfl, rfl⟩) (by assumption) ?restqb14
            case' restqb14 => try simp only [Act.put, List.setIfInBounds_toArray, List.set_cons_zero, List.set_cons_succ]
            refine wpAnyH_take (i := 14) (oi := ⟨some 60, _, _, _, _, _⟩) (v := undef) rfl (by kernel_rfl) (by kernel_rfl) (by kernel_rfl) (fun _ _ _ h => h) (Or.inr ⟨by kernel_rfl, rfl⟩) (by assumption) ?restqb15
            case' restqb15 => try simp only [Act.put, List.setIfInBounds_toArray, List.set_cons_zero, List.set_cons_succ]
            refine wpAnyH_take (i := 15) (oi := ⟨some 61, _, _, _, _, _⟩) (v := undef) rfl (by kernel_rfl) (by kernel_rfl) (by kernel_rfl) (fun _ _ _ h => h) (Or.inr ⟨by kernel_rfl, rfl⟩) (by assumption) ?restqb16
            case' restqb16 => try simp only [Act.put, List.setIfInBounds_toArray, List.set_cons_zero, List.set_cons_succ]
            refine wpAnyH_take (i := 16) (oi := ⟨some 62, _, _, _, _, _⟩) (v := undef) rfl (by kernel_rfl) (by kernel_rfl) (by kernel_rfl) (fun _ _ _ h => h) (Or.inr ⟨by kernel_rfl, rfl⟩) (by assumption) ?restqb17
            case' restqb17 => try simp only [Act.put, List.setIfInBounds_toArray, List.set_cons_zero, List.set_cons_succ]
            refine wpAnyH_take (i := 17) (oi := ⟨some 63, _, _, _, _, _⟩) (v := undef) rfl (by kernel_rfl) (by kernel_rfl) (by kernel_rfl) (fun _ _ _ h => h) (Or.inr ⟨by kernel_rfl, rfl⟩) (by assumption) ?restqb18
            case' restqb18 => try simp only [Act.put, List.setIfInBounds_toArray, List.set_cons_zero, List.set_cons_succ]
            refine wpAnyH_take (i := 18) (oi := ⟨some 64, _, _, _, _, _⟩) (v := ?vqb19) rfl (by kernel_rfl) (by kernel_rfl) (by kernel_rfl) (fun _ _ _ h => h) (Or.inl ⟨by kernel_rfl, ?hyqb19⟩) (by assumption) ?restqb19
            case hyqb19 => (intro W hSw; (try dsimp only at hSw); go_simp; try with_reducible rfl)
            case' restqb19 => try simp only [Act.put, List.setIfInBounds_toArray, List.set_cons_zero, List.set_cons_succ]
            refine wpAnyH_take (i := 19) (oi := ⟨some 45, _, _, _, _, _⟩) (v := ?vqb20) rfl (by kernel_rfl) (by kernel_rfl) (by kernel_rfl) (fun _ _ _ h => h) (Or.inl ⟨by kernel_rfl, ?hyqb20⟩) (by assumption) ?restqb20
            case hyqb20 => (intro W hSw; (try dsimp only at hSw); go_simp; try with_reducible rfl)
            case' restqb20 => try simp only [Act.put, List.setIfInBounds_toArray, List.set_cons_zero, List.set_cons_succ]
            refine wpAnyH_done (by kernel_rfl) ?_ _
            skip
            have od : Own 65 5 encD wr.drew w3.heap.size u4 L := hown.below (Below.refl _ _).drew
            have hrd2 := hrax wr.drew (k3.trans (hbw.drew.mono k3.size))
            go_wp2_with (refine Try.load59 x rfl _ rfl ppx offx rfl hrd2 ?_)
            have kd : Below w3.heap.size w3 wr.drew := hbw.drew
            generalize wr.drew = wd at *
            have kw := k3.trans (kd.mono k3.size)
            refine (proof_single x.s x.p wd hfx (hrdx.below kw)).mono ?_
            rintro e w4 ⟨vd, rfl, hSD, hb4⟩
            have kd4 := kd.trans (hb4.mono kd.size)
            have o4 := od.below hb4
            clear od hrd2
            go_wp2_with (refine Try.slice41 rfl _ rfl ppx offx X1.length cx offx' hofx rfl hcx ?_)
            go_meet
            exact ⟨.one x, X1, [], rfl, hTx, hY, hSD, mg10 x X1, by simp, by simp at hl12 ⊢; omega, o4, kd4⟩

        · have hYY := hY
          obtain ⟨ppy, offy, cy, offy', rfl, hcy, hcy6, hray, hfy, hrdy, hofy, hTy⟩ := hY.head
          have e1y : ((Y1.length : Int) + 1 == 0) = false := by rw [beq_eq_false_iff_ne]; omega

          have hlx : ∀ W, Below w3.heap.size w3 W → W.cell? ⟨ppx, offx, none⟩ = some (.int .i64 x.s) := fun W hW => by simpa using hrax W (k3.trans (hW.mono k3.size)) 0 _ rfl
          have hly : ∀ W, Below w3.heap.size w3 W → W.cell? ⟨ppy, offy, none⟩ = some (.int .i64 y.s) := fun W hW => by simpa using hray W (k3.trans (hW.mono k3.size)) 0 _ rfl

          have f0 : decide ((0 : Int) < (Y1.length : Int) + 1) = true := decide_eq_true (by omega)
          have f1 : decide ((Y1.length : Int) + 1 = 0) = false := decide_eq_false (by omega)
          by_cases hlt : x.s < y.s
          · have HLT := Lib.hid hlt
            have hld : decide (x.s < y.s) = true := decide_eq_true hlt
            clear hlt
            as_aux_lemma =>
              have hS0 : (fun W : World => Below w3.heap.size w3 W) wr.drew := hbw.drew
              go_wp2_with fail
              refine wp_region_held_drew (S := fun W : World => Below w3.heap.size w3 W) (by kernel_rfl) hS0 (fun hHeld => ?_)
              clear hHeld
              refine wpAnyH_take (i := 0) (oi := ⟨some 46, _, _, _, _, _⟩) (v := ?vqc1) rfl (by kernel_rfl) (by kernel_rfl) (by kernel_rfl) (fun _ _ _ h => h) (Or.inl ⟨by kernel_rfl, ?hyqc1⟩) (by assumption) ?restqc1
              case hyqc1 => (intro W hSw; (try dsimp only at hSw); go_simp; try with_reducible rfl)
              case' restqc1 => try simp only [Act.put, List.setIfInBounds_toArray, List.set_cons_zero, List.set_cons_succ]
              refine wpAnyH_take (i := 1) (oi := ⟨some 47, _, _, _, _, _⟩) (v := ?vqc2) rfl (by kernel_rfl) (by kernel_rfl) (by kernel_rfl) (fun _ _ _ h => h) (Or.inl ⟨by kernel_rfl, ?hyqc2⟩) (by assumption) ?restqc2
              case hyqc2 => (intro W hSw; (try dsimp only at hSw); go_simp; try with_reducible rfl)
              case' restqc2 => try simp only [Act.put, List.setIfInBounds_toArray, List.set_cons_zero, List.set_cons_succ]
              refine wpAnyH_take (i := 2) (oi := ⟨some 48, _, _, _, _, _⟩) (v := ?vqc3) rfl (by kernel_rfl) (by kernel_rfl) (by kernel_rfl) (fun _ _ _ h => h) (Or.inl ⟨by kernel_rfl, ?hyqc3⟩) (by assumption) ?restqc3
              case hyqc3 => (intro W hSw; (try dsimp only at hSw); go_simp; try with_reducible rfl)
              case' restqc3 => try simp only [Act.put, List.setIfInBounds_toArray, List.set_cons_zero, List.set_cons_succ]
              refine wpAnyH_take (i := 3) (oi := ⟨some 49, _, _, _, _, _⟩) (v := ?vqc4) rfl (by kernel_rfl) (by kernel_rfl) (by kernel_rfl) (fun _ _ _ h => h) (Or.inl ⟨by kernel_rfl, ?hyqc4⟩) (by assumption) ?restqc4
              case hyqc4 => (intro W hSw; (try dsimp only at hSw); go_simp; try with_reducible rfl)
              case' restqc4 => try simp only [Act.put, List.setIfInBounds_toArray, List.set_cons_zero, List.set_cons_succ]
              refine wpAnyH_take (i := 4) (oi := ⟨some 50, _, _, _, _, _⟩) (v := ?vqc5) rfl (by kernel_rfl) (by kernel_rfl) (by kernel_rfl) (fun _ _ _ h => h) (Or.inl ⟨by kernel_rfl, ?hyqc5⟩) (by assumption) ?restqc5
              case hyqc5 => (intro W hSw; (try dsimp only at hSw); go_simp; try with_reducible rfl)
              case' restqc5 => try simp only [Act.put, List.setIfInBounds_toArray, List.set_cons_zero, List.set_cons_succ]
              refine wpAnyH_take (i := 5) (oi := ⟨some 51, _, _, _, _, _⟩) (v := ?vqc6) rfl (by kernel_rfl) (by kernel_rfl) (by kernel_rfl) (fun _ _ _ h => h) (Or.inl ⟨by kernel_rfl, ?hyqc6⟩) (by assumption) ?restqc6
              case hyqc6 => (intro W hSw; (try dsimp only at hSw); go_simp; try with_reducible rfl)
              case' restqc6 => try simp only [Act.put, List.setIfInBounds_toArray, List.set_cons_zero, List.set_cons_succ]
              refine wpAnyH_take (i := 6) (oi := ⟨some 52, _, _, _, _, _⟩) (v := ?vqc7) rfl (by kernel_rfl) (by kernel_rfl) (by kernel_rfl) (fun _ _ _ h => h) (Or.inl ⟨by kernel_rfl, ?hyqc7⟩) (by assumption) ?restqc7
              case hyqc7 => (intro W hSw; (try dsimp only at hSw); go_simp; try with_reducible rfl)
              case' restqc7 => try simp only [Act.put, List.setIfInBounds_toArray, List.set_cons_zero, List.set_cons_succ]
              refine wpAnyH_take (i := 7) (oi := ⟨some 53, _, _, _, _, _⟩) (v := ?vqc8) rfl (by kernel_rfl) (by kernel_rfl) (by kernel_rfl) (fun _ _ _ h => h) (Or.inl ⟨by kernel_rfl, ?hyqc8⟩) (by assumption) ?restqc8
              case hyqc8 => (intro W hSw; (try dsimp only at hSw); go_simp; try with_reducible rfl)
              case' restqc8 => try simp only [Act.put, List.setIfInBounds_toArray, List.set_cons_zero, List.set_cons_succ]
              refine wpAnyH_take (i := 8) (oi := ⟨some 54, _, _, _, _, _⟩) (v := ?vqc9) rfl (by kernel_rfl) (by kernel_rfl) (by kernel_rfl) (fun _ _ _ h => h) (Or.inl ⟨by kernel_rfl, ?hyqc9⟩) (by assumption) ?restqc9
              case hyqc9 => (intro W hSw; (try dsimp only at hSw); go_simp; try with_reducible rfl)
              case' restqc9 => try simp only [Act.put, List.setIfInBounds_toArray, List.set_cons_zero, List.set_cons_succ]
              refine wpAnyH_take (i := 9) (oi := ⟨some 55, _, _, _, _, _⟩) (v := ?vqc10) rfl (by kernel_rfl) (by kernel_rfl) (by kernel_rfl) (fun _ _ _ h => h) (Or.inl ⟨by kernel_rfl, ?hyqc10⟩) (by assumption) ?restqc10
              case hyqc10 => (intro W hSw; (try dsimp only at hSw); go_simp; try with_reducible rfl)
              case' restqc10 => try simp only [Act.put, List.setIfInBounds_toArray, List.set_cons_zero, List.set_cons_succ]
              refine wpAnyH_take (i := 10) (oi := ⟨some 56, _, _, _, _, _⟩) (v := ?vqc11) rfl (by kernel_rfl) (by kernel_rfl) (by kernel_rfl) (fun _ _ _ h => h) (Or.inl ⟨by kernel_rfl, ?hyqc11⟩) (by assumption) ?restqc11
              case hyqc11 => (intro W hSw; (try dsimp only at hSw); go_simp; try with_reducible rfl)
              case' restqc11 => try simp only [Act.put, List.setIfInBounds_toArray, List.set_cons_zero, List.set_cons_succ]
              refine wpAnyH_take (i := 11) (oi := ⟨some 57, _, _, _, _, _⟩) (v := ?vqc12) rfl (by kernel_rfl) (by kernel_rfl) (by kernel_rfl) (fun _ _ _ h => h) (Or.inl ⟨by kernel_rfl, ?hyqc12⟩) (by assumption) ?restqc12
              case hyqc12 => (intro W hSw; have hg := hlx W hSw; (try dsimp only at hSw); go_simp; try with_reducible rfl)
              case' restqc12 => try simp only [Act.put, List.setIfInBounds_toArray, List.set_cons_zero, List.set_cons_succ]
              refine wpAnyH_take (i := 12) (oi := ⟨some 58, _, _, _, _, _⟩) (v := ?vqc13) rfl (by kernel_rfl) (by kernel_rfl) (by kernel_rfl) (fun _ _ _ h => h) (Or.inl ⟨by kernel_rfl, ?hyqc13⟩) (by assumption) ?restqc13
              case hyqc13 => (intro W hSw; (try dsimp only at hSw); go_simp; try with_reducible rfl)
              case' restqc13 => try simp only [Act.put, List.setIfInBounds_toArray, List.set_cons_zero, List.set_cons_succ]
              refine wpAnyH_take (i := 13) (oi := ⟨some 59, _, _, _, _, _⟩) (v := ?vqc14) rfl (by kernel_rfl) (by kernel_rfl) (by kernel_rfl) (fun _ _ _ h => h) (Or.inl ⟨by kernel_rfl, ?hyqc14⟩) (by assumption) ?restqc14
              case hyqc14 => (intro W hSw; (try dsimp only at hSw); go_simp; try with_reducible rfl)
              case' restqc14 => try simp only [Act.put, List.setIfInBounds_toArray, List.set_cons_zero, List.set_cons_succ]
              refine wpAnyH_take (i := 14) (oi := ⟨some 60, _, _, _, _, _⟩) (v := ?vqc15) rfl (by kernel_rfl) (by kernel_rfl) (by kernel_rfl) (fun _ _ _ h => h) (Or.inl ⟨by kernel_rfl, ?hyqc15⟩) (by assumption) ?restqc15
              case hyqc15 => (intro W hSw; (try dsimp only at hSw); go_simp; try with_reducible rfl)
              case' restqc15 => try simp only [Act.put, List.setIfInBounds_toArray, List.set_cons_zero, List.set_cons_succ]
              refine wpAnyH_take (i := 15) (oi := ⟨some 61, _, _, _, _, _⟩) (v := ?vqc16) rfl (by kernel_rfl) (by kernel_rfl) (by kernel_rfl) (fun _ _ _ h => h) (Or.inl ⟨by kernel_rfl, ?hyqc16⟩) (by assumption) ?restqc16
              case hyqc16 => (intro W hSw; have hg := hly W hSw; (try dsimp only at hSw); go_simp; try with_reducible rfl)
              case' restqc16 => try simp only [Act.put, List.setIfInBounds_toArray, List.set_cons_zero, List.set_cons_succ]
              refine wpAnyH_take (i := 16) (oi := ⟨some 62, _, _, _, _, _⟩) (v := ?vqc17) rfl (by kernel_rfl) (by kernel_rfl) (by kernel_rfl) (fun _ _ _ h => h) (Or.inl ⟨by kernel_rfl, ?hyqc17⟩) (by assumption) ?restqc17
              case hyqc17 => (intro W hSw; (try dsimp only at hSw); go_simp; try with_reducible rfl)
              case' restqc17 => try simp only [Act.put, List.setIfInBounds_toArray, List.set_cons_zero, List.set_cons_succ]
              refine wpAnyH_take (i := 17) (oi := ⟨some 63, _, _, _, _, _⟩) (v := ?vqc18) rfl (by kernel_rfl) (by kernel_rfl) (by kernel_rfl) (fun _ _ _ h => h) (Or.inl ⟨by kernel_rfl, ?hyqc18⟩) (by assumption) ?restqc18
              case hyqc18 => (intro W hSw; (try dsimp only at hSw); go_simp; try with_reducible rfl)
              case' restqc18 => try simp only [Act.put, List.setIfInBounds_toArray, List.set_cons_zero, List.set_cons_succ]
              refine wpAnyH_take (i := 18) (oi := ⟨some 64, _, _, _, _, _⟩) (v := ?vqc19) rfl (by kernel_rfl) (by kernel_rfl) (by kernel_rfl) (fun _ _ _ h => h) (Or.inl ⟨by kernel_rfl, ?hyqc19⟩) (by assumption) ?restqc19
              case hyqc19 => (intro W hSw; (try dsimp only at hSw); go_simp; try with_reducible rfl)
              case' restqc19 => try simp only [Act.put, List.setIfInBounds_toArray, List.set_cons_zero, List.set_cons_succ]
              refine wpAnyH_take (i := 19) (oi := ⟨some 45, _, _, _, _, _⟩) (v := ?vqc20) rfl (by kernel_rfl) (by kernel_rfl) (by kernel_rfl) (fun _ _ _ h => h) (Or.inl ⟨by kernel_rfl, ?hyqc20⟩) (by assumption) ?restqc20
              case hyqc20 => (intro W hSw; (try dsimp only at hSw); go_simp; try with_reducible rfl)
              case' restqc20 => try simp only [Act.put, List.setIfInBounds_toArray, List.set_cons_zero, List.set_cons_succ]
              refine wpAnyH_done (by kernel_rfl) ?_ _
              skip
              have od : Own 65 5 encD wr.drew w3.heap.size u4 L := hown.below (Below.refl _ _).drew
              have hrd2 := hrax wr.drew (k3.trans (hbw.drew.mono k3.size))
              go_wp2_with (refine Try.load59 x rfl _ rfl ppx offx rfl hrd2 ?_)
              have kd : Below w3.heap.size w3 wr.drew := hbw.drew
              generalize wr.drew = wd at *
              have kw := k3.trans (kd.mono k3.size)
              refine (proof_single x.s x.p wd hfx (hrdx.below kw)).mono ?_
              rintro e w4 ⟨vd, rfl, hSD, hb4⟩
              have kd4 := kd.trans (hb4.mono kd.size)
              have o4 := od.below hb4
              clear od hrd2
              go_wp2_with (refine Try.slice41 rfl _ rfl ppx offx X1.length cx offx' hofx rfl hcx ?_)
              go_meet
              exact ⟨.one x, X1, y :: Y1, rfl, hTx, hYY, hSD, mgL X1 Y1 HLT.out, by simp, by simp at hl12 ⊢; omega, o4, kd4⟩

          · by_cases hgt : y.s < x.s
            · have HLT := Lib.hid hgt
              have hld : decide (x.s < y.s) = false := decide_eq_false hlt
              have hld2 : decide (y.s < x.s) = true := decide_eq_true hgt
              clear hlt hgt
              as_aux_lemma =>
                have hS0 : (fun W : World => Below w3.heap.size w3 W) wr.drew := hbw.drew
                go_wp2_with fail
                refine wp_region_held_drew (S := fun W : World => Below w3.heap.size w3 W) (by kernel_rfl) hS0 (fun hHeld => ?_)
                clear hHeld
                refine wpAnyH_take (i := 0) (oi := ⟨some 46, _, _, _, _, _⟩) (v := ?vqd1) rfl (by kernel_rfl) (by kernel_rfl) (by kernel_rfl) (fun _ _ _ h => h) (Or.inl ⟨by kernel_rfl, ?hyqd1⟩) (by assumption) ?restqd1
                case hyqd1 => (intro W hSw; (try dsimp only at hSw); go_simp; try with_reducible rfl)
                case' restqd1 => try simp only [Act.put, List.setIfInBounds_toArray, List.set_cons_zero, List.set_cons_succ]
                refine wpAnyH_take (i := 1) (oi := ⟨some 47, _, _, _, _, _⟩) (v := ?vqd2) rfl (by kernel_rfl) (by kernel_rfl) (by kernel_rfl) (fun _ _ _ h => h) (Or.inl ⟨by kernel_rfl, ?hyqd2⟩) (by assumption) ?restqd2
                case hyqd2 => (intro W hSw; (try dsimp only at hSw); go_simp; try with_reducible rfl)
                case' restqd2 => try simp only [Act.put, List.setIfInBounds_toArray, List.set_cons_zero, List.set_cons_succ]
                refine wpAnyH_take (i := 2) (oi := ⟨some 48, _, _, _, _, _⟩) (v := ?vqd3) rfl (by kernel_rfl) (by kernel_rfl) (by kernel_rfl) (fun _ _ _ h => h) (Or.inl ⟨by kernel_rfl, ?hyqd3⟩) (by assumption) ?restqd3
                case hyqd3 => (intro W hSw; (try dsimp only at hSw); go_simp; try with_reducible rfl)
                case' restqd3 => try simp only [Act.put, List.setIfInBounds_toArray, List.set_cons_zero, List.set_cons_succ]
                refine wpAnyH_take (i := 3) (oi := ⟨some 49, _, _, _, _, _⟩) (v := ?vqd4) rfl (by kernel_rfl) (by kernel_rfl) (by kernel_rfl) (fun _ _ _ h => h) (Or.inl ⟨by kernel_rfl, ?hyqd4⟩) (by assumption) ?restqd4
                case hyqd4 => (intro W hSw; (try dsimp only at hSw); go_simp; try with_reducible rfl)
                case' restqd4 => try simp only [Act.put, List.setIfInBounds_toArray, List.set_cons_zero, List.set_cons_succ]
                refine wpAnyH_take (i := 4) (oi := ⟨some 50, _, _, _, _, _⟩) (v := ?vqd5) rfl (by kernel_rfl) (by kernel_rfl) (by kernel_rfl) (fun _ _ _ h => h) (Or.inl ⟨by kernel_rfl, ?hyqd5⟩) (by assumption) ?restqd5
                case hyqd5 => (intro W hSw; (try dsimp only at hSw); go_simp; try with_reducible rfl)
                case' restqd5 => try simp only [Act.put, List.setIfInBounds_toArray, List.set_cons_zero, List.set_cons_succ]
                refine wpAnyH_take (i := 5) (oi := ⟨some 51, _, _, _, _, _⟩) (v := ?vqd6) rfl (by kernel_rfl) (by kernel_rfl) (by kernel_rfl) (fun _ _ _ h => h) (Or.inl ⟨by kernel_rfl, ?hyqd6⟩) (by assumption) ?restqd6
                case hyqd6 => (intro W hSw; (try dsimp only at hSw); go_simp; try with_reducible rfl)
                case' restqd6 => try simp only [Act.put, List.setIfInBounds_toArray, List.set_cons_zero, List.set_cons_succ]
                refine wpAnyH_take (i := 6) (oi := ⟨some 52, _, _, _, _, _⟩) (v := ?vqd7) rfl (by kernel_rfl) (by kernel_rfl) (by kernel_rfl) (fun _ _ _ h => h) (Or.inl ⟨by kernel_rfl, ?hyqd7⟩) (by assumption) ?restqd7
                case hyqd7 => (intro W hSw; (try dsimp only at hSw); go_simp; try with_reducible rfl)
                case' restqd7 => try simp only [Act.put, List.setIfInBounds_toArray, List.set_cons_zero, List.set_cons_succ]
                refine wpAnyH_take (i := 7) (oi := ⟨some 53, _, _, _, _, _⟩) (v := ?vqd8) rfl (by kernel_rfl) (by kernel_rfl) (by kernel_rfl) (fun _ _ _ h => h) (Or.inl ⟨by kernel_rfl, ?hyqd8⟩) (by assumption) ?restqd8
                case hyqd8 => (intro W hSw; (try dsimp only at hSw); go_simp; try with_reducible rfl)
                case' restqd8 => try simp only [Act.put, List.setIfInBounds_toArray, List.set_cons_zero, List.set_cons_succ]
                refine wpAnyH_take (i := 8) (oi := ⟨some 54, _, _, _, _, _⟩) (v := ?vqd9) rfl (by kernel_rfl) (by kernel_rfl) (by kernel_rfl) (fun _ _ _ h => h) (Or.inl ⟨by kernel_rfl, ?hyqd9⟩) (by assumption) ?restqd9
                case hyqd9 => (intro W hSw; (try dsimp only at hSw); go_simp; try with_reducible rfl)
                case' restqd9 => try simp only [Act.put, List.setIfInBounds_toArray, List.set_cons_zero, List.set_cons_succ]
                refine wpAnyH_take (i := 9) (oi := ⟨some 55, _, _, _, _, _⟩) (v := ?vqd10) rfl (by kernel_rfl) (by kernel_rfl) (by kernel_rfl) (fun _ _ _ h => h) (Or.inl ⟨by kernel_rfl, ?hyqd10⟩) (by assumption) ?restqd10
                case hyqd10 => (intro W hSw; (try dsimp only at hSw); go_simp; try with_reducible rfl)
                case' restqd10 => try simp only [Act.put, List.setIfInBounds_toArray, List.set_cons_zero, List.set_cons_succ]
                refine wpAnyH_take (i := 10) (oi := ⟨some 56, _, _, _, _, _⟩) (v := ?vqd11) rfl (by kernel_rfl) (by kernel_rfl) (by kernel_rfl) (fun _ _ _ h => h) (Or.inl ⟨by kernel_rfl, ?hyqd11⟩) (by assumption) ?restqd11
                case hyqd11 => (intro W hSw; (try dsimp only at hSw); go_simp; try with_reducible rfl)
                case' restqd11 => try simp only [Act.put, List.setIfInBounds_toArray, List.set_cons_zero, List.set_cons_succ]
                refine wpAnyH_take (i := 11) (oi := ⟨some 57, _, _, _, _, _⟩) (v := ?vqd12) rfl (by kernel_rfl) (by kernel_rfl) (by kernel_rfl) (fun _ _ _ h => h) (Or.inl ⟨by kernel_rfl, ?hyqd12⟩) (by assumption) ?restqd12
                case hyqd12 => (intro W hSw; have hg := hlx W hSw; (try dsimp only at hSw); go_simp; try with_reducible rfl)
                case' restqd12 => try simp only [Act.put, List.setIfInBounds_toArray, List.set_cons_zero, List.set_cons_succ]
                refine wpAnyH_take (i := 12) (oi := ⟨some 58, _, _, _, _, _⟩) (v := ?vqd13) rfl (by kernel_rfl) (by kernel_rfl) (by kernel_rfl) (fun _ _ _ h => h) (Or.inl ⟨by kernel_rfl, ?hyqd13⟩) (by assumption) ?restqd13
                case hyqd13 => (intro W hSw; (try dsimp only at hSw); go_simp; try with_reducible rfl)
                case' restqd13 => try simp only [Act.put, List.setIfInBounds_toArray, List.set_cons_zero, List.set_cons_succ]
                refine wpAnyH_take (i := 13) (oi := ⟨some 59, _, _, _, _, _⟩) (v := ?vqd14) rfl (by kernel_rfl) (by kernel_rfl) (by kernel_rfl) (fun _ _ _ h => h) (Or.inl ⟨by kernel_rfl, ?hyqd14⟩) (by assumption) ?restqd14
                case hyqd14 => (intro W hSw; (try dsimp only at hSw); go_simp; try with_reducible rfl)
                case' restqd14 => try simp only [Act.put, List.setIfInBounds_toArray, List.set_cons_zero, List.set_cons_succ]
                refine wpAnyH_take (i := 14) (oi := ⟨some 60, _, _, _, _, _⟩) (v := ?vqd15) rfl (by kernel_rfl) (by kernel_rfl) (by kernel_rfl) (fun _ _ _ h => h) (Or.inl ⟨by kernel_rfl, ?hyqd15⟩) (by assumption) ?restqd15
                case hyqd15 => (intro W hSw; (try dsimp only at hSw); go_simp; try with_reducible rfl)
                case' restqd15 => try simp only [Act.put, List.setIfInBounds_toArray, List.set_cons_zero, List.set_cons_succ]
                refine wpAnyH_take (i := 15) (oi := ⟨some 61, _, _, _, _, _⟩) (v := ?vqd16) rfl (by kernel_rfl) (by kernel_rfl) (by kernel_rfl) (fun _ _ _ h => h) (Or.inl ⟨by kernel_rfl, ?hyqd16⟩) (by assumption) ?restqd16
                case hyqd16 => (intro W hSw; have hg := hly W hSw; (try dsimp only at hSw); go_simp; try with_reducible rfl)
                case' restqd16 => try simp only [Act.put, List.setIfInBounds_toArray, List.set_cons_zero, List.set_cons_succ]
                refine wpAnyH_take (i := 16) (oi := ⟨some 62, _, _, _, _, _⟩) (v := ?vqd17) rfl (by kernel_rfl) (by kernel_rfl) (by kernel_rfl) (fun _ _ _ h => h) (Or.inl ⟨by kernel_rfl, ?hyqd17⟩) (by assumption) ?restqd17
                case hyqd17 => (intro W hSw; (try dsimp only at hSw); go_simp; try with_reducible rfl)
                case' restqd17 => try simp only [Act.put, List.setIfInBounds_toArray, List.set_cons_zero, List.set_cons_succ]
                refine wpAnyH_take (i := 17) (oi := ⟨some 63, _, _, _, _, _⟩) (v := ?vqd18) rfl (by kernel_rfl) (by kernel_rfl) (by kernel_rfl) (fun _ _ _ h => h) (Or.inl ⟨by kernel_rfl, ?hyqd18⟩) (by assumption) ?restqd18
                case hyqd18 => (intro W hSw; (try dsimp only at hSw); go_simp; try with_reducible rfl)
                case' restqd18 => try simp only [Act.put, List.setIfInBounds_toArray, List.set_cons_zero, List.set_cons_succ]
                refine wpAnyH_take (i := 18) (oi := ⟨some 64, _, _, _, _, _⟩) (v := ?vqd19) rfl (by kernel_rfl) (by kernel_rfl) (by kernel_rfl) (fun _ _ _ h => h) (Or.inl ⟨by kernel_rfl, ?hyqd19⟩) (by assumption) ?restqd19
                case hyqd19 => (intro W hSw; (try dsimp only at hSw); go_simp; try with_reducible rfl)
                case' restqd19 => try simp only [Act.put, List.setIfInBounds_toArray, List.set_cons_zero, List.set_cons_succ]
                refine wpAnyH_take (i := 19) (oi := ⟨some 45, _, _, _, _, _⟩) (v := ?vqd20) rfl (by kernel_rfl) (by kernel_rfl) (by kernel_rfl) (fun _ _ _ h => h) (Or.inl ⟨by kernel_rfl, ?hyqd20⟩) (by assumption) ?restqd20
                case hyqd20 => (intro W hSw; (try dsimp only at hSw); go_simp; try with_reducible rfl)
                case' restqd20 => try simp only [Act.put, List.setIfInBounds_toArray, List.set_cons_zero, List.set_cons_succ]
                refine wpAnyH_done (by kernel_rfl) ?_ _
                skip
                go_wp2_with fail
                have hS1 : (fun W : World => Below w3.heap.size w3 W) wr.drew.drew := hbw.drew.drew
                refine wp_region_held_drew (S := fun W : World => Below w3.heap.size w3 W) (by kernel_rfl) hS1 (fun hHeld => ?_)
                clear hHeld
                refine wpAnyH_take (i := 0) (oi := ⟨some 75, _, _, _, _, _⟩) (v := ?vrd1) rfl (by kernel_rfl) (by kernel_rfl) (by kernel_rfl) (fun _ _ _ h => h) (Or.inl ⟨by kernel_rfl, ?hyrd1⟩) (by assumption) ?restrd1
                case hyrd1 => (intro W hSw; (try dsimp only at hSw); go_simp; try with_reducible rfl)
                case' restrd1 => try simp only [Act.put, List.setIfInBounds_toArray, List.set_cons_zero, List.set_cons_succ]
                refine wpAnyH_take (i := 1) (oi := ⟨some 76, _, _, _, _, _⟩) (v := ?vrd2) rfl (by kernel_rfl) (by kernel_rfl) (by kernel_rfl) (fun _ _ _ h => h) (Or.inl ⟨by kernel_rfl, ?hyrd2⟩) (by assumption) ?restrd2
                case hyrd2 => (intro W hSw; (try dsimp only at hSw); go_simp; try with_reducible rfl)
                case' restrd2 => try simp only [Act.put, List.setIfInBounds_toArray, List.set_cons_zero, List.set_cons_succ]
                refine wpAnyH_take (i := 2) (oi := ⟨some 77, _, _, _, _, _⟩) (v := ?vrd3) rfl (by kernel_rfl) (by kernel_rfl) (by kernel_rfl) (fun _ _ _ h => h) (Or.inl ⟨by kernel_rfl, ?hyrd3⟩) (by assumption) ?restrd3
                case hyrd3 => (intro W hSw; (try dsimp only at hSw); go_simp; try with_reducible rfl)
                case' restrd3 => try simp only [Act.put, List.setIfInBounds_toArray, List.set_cons_zero, List.set_cons_succ]
                refine wpAnyH_take (i := 3) (oi := ⟨some 78, _, _, _, _, _⟩) (v := ?vrd4) rfl (by kernel_rfl) (by kernel_rfl) (by kernel_rfl) (fun _ _ _ h => h) (Or.inl ⟨by kernel_rfl, ?hyrd4⟩) (by assumption) ?restrd4
                case hyrd4 => (intro W hSw; (try dsimp only at hSw); go_simp; try with_reducible rfl)
                case' restrd4 => try simp only [Act.put, List.setIfInBounds_toArray, List.set_cons_zero, List.set_cons_succ]
                refine wpAnyH_take (i := 4) (oi := ⟨some 79, _, _, _, _, _⟩) (v := ?vrd5) rfl (by kernel_rfl) (by kernel_rfl) (by kernel_rfl) (fun _ _ _ h => h) (Or.inl ⟨by kernel_rfl, ?hyrd5⟩) (by assumption) ?restrd5
                case hyrd5 => (intro W hSw; (try dsimp only at hSw); go_simp; try with_reducible rfl)
                case' restrd5 => try simp only [Act.put, List.setIfInBounds_toArray, List.set_cons_zero, List.set_cons_succ]
                refine wpAnyH_take (i := 5) (oi := ⟨some 80, _, _, _, _, _⟩) (v := ?vrd6) rfl (by kernel_rfl) (by kernel_rfl) (by kernel_rfl) (fun _ _ _ h => h) (Or.inl ⟨by kernel_rfl, ?hyrd6⟩) (by assumption) ?restrd6
                case hyrd6 => (intro W hSw; (try dsimp only at hSw); go_simp; try with_reducible rfl)
                case' restrd6 => try simp only [Act.put, List.setIfInBounds_toArray, List.set_cons_zero, List.set_cons_succ]
                refine wpAnyH_take (i := 6) (oi := ⟨some 81, _, _, _, _, _⟩) (v := ?vrd7) rfl (by kernel_rfl) (by kernel_rfl) (by kernel_rfl) (fun _ _ _ h => h) (Or.inl ⟨by kernel_rfl, ?hyrd7⟩) (by assumption) ?restrd7
                case hyrd7 => (intro W hSw; (try dsimp only at hSw); go_simp; try with_reducible rfl)
                case' restrd7 => try simp only [Act.put, List.setIfInBounds_toArray, List.set_cons_zero, List.set_cons_succ]
                refine wpAnyH_take (i := 7) (oi := ⟨some 82, _, _, _, _, _⟩) (v := ?vrd8) rfl (by kernel_rfl) (by kernel_rfl) (by kernel_rfl) (fun _ _ _ h => h) (Or.inl ⟨by kernel_rfl, ?hyrd8⟩) (by assumption) ?restrd8
                case hyrd8 => (intro W hSw; have hg := hly W hSw; (try dsimp only at hSw); go_simp; try with_reducible rfl)
                case' restrd8 => try simp only [Act.put, List.setIfInBounds_toArray, List.set_cons_zero, List.set_cons_succ]
                refine wpAnyH_take (i := 8) (oi := ⟨some 83, _, _, _, _, _⟩) (v := ?vrd9) rfl (by kernel_rfl) (by kernel_rfl) (by kernel_rfl) (fun _ _ _ h => h) (Or.inl ⟨by kernel_rfl, ?hyrd9⟩) (by assumption) ?restrd9
                case hyrd9 => (intro W hSw; (try dsimp only at hSw); go_simp; try with_reducible rfl)
                case' restrd9 => try simp only [Act.put, List.setIfInBounds_toArray, List.set_cons_zero, List.set_cons_succ]
                refine wpAnyH_take (i := 9) (oi := ⟨some 84, _, _, _, _, _⟩) (v := ?vrd10) rfl (by kernel_rfl) (by kernel_rfl) (by kernel_rfl) (fun _ _ _ h => h) (Or.inl ⟨by kernel_rfl, ?hyrd10⟩) (by assumption) ?restrd10
                case hyrd10 => (intro W hSw; (try dsimp only at hSw); go_simp; try with_reducible rfl)
                case' restrd10 => try simp only [Act.put, List.setIfInBounds_toArray, List.set_cons_zero, List.set_cons_succ]
                refine wpAnyH_take (i := 10) (oi := ⟨some 85, _, _, _, _, _⟩) (v := ?vrd11) rfl (by kernel_rfl) (by kernel_rfl) (by kernel_rfl) (fun _ _ _ h => h) (Or.inl ⟨by kernel_rfl, ?hyrd11⟩) (by assumption) ?restrd11
                case hyrd11 => (intro W hSw; (try dsimp only at hSw); go_simp; try with_reducible rfl)
                case' restrd11 => try simp only [Act.put, List.setIfInBounds_toArray, List.set_cons_zero, List.set_cons_succ]
                refine wpAnyH_take (i := 11) (oi := ⟨some 86, _, _, _, _, _⟩) (v := ?vrd12) rfl (by kernel_rfl) (by kernel_rfl) (by kernel_rfl) (fun _ _ _ h => h) (Or.inl ⟨by kernel_rfl, ?hyrd12⟩) (by assumption) ?restrd12
                case hyrd12 => (intro W hSw; have hg := hlx W hSw; (try dsimp only at hSw); go_simp; try with_reducible rfl)
                case' restrd12 => try simp only [Act.put, List.setIfInBounds_toArray, List.set_cons_zero, List.set_cons_succ]
                refine wpAnyH_take (i := 12) (oi := ⟨some 87, _, _, _, _, _⟩) (v := ?vrd13) rfl (by kernel_rfl) (by kernel_rfl) (by kernel_rfl) (fun _ _ _ h => h) (Or.inl ⟨by kernel_rfl, ?hyrd13⟩) (by assumption) ?restrd13
                case hyrd13 => (intro W hSw; (try dsimp only at hSw); go_simp; try with_reducible rfl)
                case' restrd13 => try simp only [Act.put, List.setIfInBounds_toArray, List.set_cons_zero, List.set_cons_succ]
                refine wpAnyH_take (i := 13) (oi := ⟨some 88, _, _, _, _, _⟩) (v := ?vrd14) rfl (by kernel_rfl) (by kernel_rfl) (by kernel_rfl) (fun _ _ _ h => h) (Or.inl ⟨by kernel_rfl, ?hyrd14⟩) (by assumption) ?restrd14
                case hyrd14 => (intro W hSw; (try dsimp only at hSw); go_simp; try with_reducible rfl)
                case' restrd14 => try simp only [Act.put, List.setIfInBounds_toArray, List.set_cons_zero, List.set_cons_succ]
                refine wpAnyH_take (i := 14) (oi := ⟨some 74, _, _, _, _, _⟩) (v := ?vrd15) rfl (by kernel_rfl) (by kernel_rfl) (by kernel_rfl) (fun _ _ _ h => h) (Or.inl ⟨by kernel_rfl, ?hyrd15⟩) (by assumption) ?restrd15
                case hyrd15 => (intro W hSw; (try dsimp only at hSw); go_simp; try with_reducible rfl)
                case' restrd15 => try simp only [Act.put, List.setIfInBounds_toArray, List.set_cons_zero, List.set_cons_succ]
                refine wpAnyH_done (by kernel_rfl) ?_ _
                skip
                have od : Own 65 5 encD wr.drew.drew w3.heap.size u4 L := hown.below (Below.refl _ _).drew.drew
                have hrd2 := hray wr.drew.drew (k3.trans (hbw.drew.drew.mono k3.size))
                go_wp2_with (refine Try.load59 y rfl _ rfl ppy offy rfl hrd2 ?_)
                have kd : Below w3.heap.size w3 wr.drew.drew := hbw.drew.drew
                generalize wr.drew.drew = wd at *
                have kw := k3.trans (kd.mono k3.size)
                refine (proof_single y.s y.p wd hfy (hrdy.below kw)).mono ?_
                rintro e w4 ⟨vd, rfl, hSD, hb4⟩
                have kd4 := kd.trans (hb4.mono kd.size)
                have o4 := od.below hb4
                clear od hrd2
                go_wp2_with (refine Try.slice41 rfl _ rfl ppy offy Y1.length cy offy' hofy rfl hcy ?_)
                go_meet
                exact ⟨.one y, x :: X1, Y1, rfl, hXX, hTy, hSD, mgR X1 Y1 HLT.out, by simp only [List.length_cons]; omega, by simp at hl12 ⊢; omega, o4, kd4⟩

            · have HLT := Lib.hid (show x.s = y.s by omega)
              have hld : decide (x.s < y.s) = false := decide_eq_false hlt
              have hld2 : decide (y.s < x.s) = false := decide_eq_false hgt
              clear hlt hgt
              as_aux_lemma =>
                have hS0 : (fun W : World => Below w3.heap.size w3 W) wr.drew := hbw.drew
                go_wp2_with fail
                refine wp_region_held_drew (S := fun W : World => Below w3.heap.size w3 W) (by kernel_rfl) hS0 (fun hHeld => ?_)
                clear hHeld
                refine wpAnyH_take (i := 0) (oi := ⟨some 46, _, _, _, _, _⟩) (v := ?vqe1) rfl (by kernel_rfl) (by kernel_rfl) (by kernel_rfl) (fun _ _ _ h => h) (Or.inl ⟨by kernel_rfl, ?hyqe1⟩) (by assumption) ?restqe1
                case hyqe1 => (intro W hSw; (try dsimp only at hSw); go_simp; try with_reducible rfl)
                case' restqe1 => try simp only [Act.put, List.setIfInBounds_toArray, List.set_cons_zero, List.set_cons_succ]
                refine wpAnyH_take (i := 1) (oi := ⟨some 47, _, _, _, _, _⟩) (v := ?vqe2) rfl (by kernel_rfl) (by kernel_rfl) (by kernel_rfl) (fun _ _ _ h => h) (Or.inl ⟨by kernel_rfl, ?hyqe2⟩) (by assumption) ?restqe2
                case hyqe2 => (intro W hSw; (try dsimp only at hSw); go_simp; try with_reducible rfl)
                case' restqe2 => try simp only [Act.put, List.setIfInBounds_toArray, List.set_cons_zero, List.set_cons_succ]
                refine wpAnyH_take (i := 2) (oi := ⟨some 48, _, _, _, _, _⟩) (v := ?vqe3) rfl (by kernel_rfl) (by kernel_rfl) (by kernel_rfl) (fun _ _ _ h => h) (Or.inl ⟨by kernel_rfl, ?hyqe3⟩) (by assumption) ?restqe3
                case hyqe3 => (intro W hSw; (try dsimp only at hSw); go_simp; try with_reducible rfl)
                case' restqe3 => try simp only [Act.put, List.setIfInBounds_toArray, List.set_cons_zero, List.set_cons_succ]
                refine wpAnyH_take (i := 3) (oi := ⟨some 49, _, _, _, _, _⟩) (v := ?vqe4) rfl (by kernel_rfl) (by kernel_rfl) (by kernel_rfl) (fun _ _ _ h => h) (Or.inl ⟨by kernel_rfl, ?hyqe4⟩) (by assumption) ?restqe4
                case hyqe4 => (intro W hSw; (try dsimp only at hSw); go_simp; try with_reducible rfl)
                case' restqe4 => try simp only [Act.put, List.setIfInBounds_toArray, List.set_cons_zero, List.set_cons_succ]
                refine wpAnyH_take (i := 4) (oi := ⟨some 50, _, _, _, _, _⟩) (v := ?vqe5) rfl (by kernel_rfl) (by kernel_rfl) (by kernel_rfl) (fun _ _ _ h => h) (Or.inl ⟨by kernel_rfl, ?hyqe5⟩) (by assumption) ?restqe5
                case hyqe5 => (intro W hSw; (try dsimp only at hSw); go_simp; try with_reducible rfl)
                case' restqe5 => try simp only [Act.put, List.setIfInBounds_toArray, List.set_cons_zero, List.set_cons_succ]
                refine wpAnyH_take (i := 5) (oi := ⟨some 51, _, _, _, _, _⟩) (v := ?vqe6) rfl (by kernel_rfl) (by kernel_rfl) (by kernel_rfl) (fun _ _ _ h => h) (Or.inl ⟨by kernel_rfl, ?hyqe6⟩) (by assumption) ?restqe6
                case hyqe6 => (intro W hSw; (try dsimp only at hSw); go_simp; try with_reducible rfl)
                case' restqe6 => try simp only [Act.put, List.setIfInBounds_toArray, List.set_cons_zero, List.set_cons_succ]
                refine wpAnyH_take (i := 6) (oi := ⟨some 52, _, _, _, _, _⟩) (v := ?vqe7) rfl (by kernel_rfl) (by kernel_rfl) (by kernel_rfl) (fun _ _ _ h => h) (Or.inl ⟨by kernel_rfl, ?hyqe7⟩) (by assumption) ?restqe7
                case hyqe7 => (intro W hSw; (try dsimp only at hSw); go_simp; try with_reducible rfl)
                case' restqe7 => try simp only [Act.put, List.setIfInBounds_toArray, List.set_cons_zero, List.set_cons_succ]
                refine wpAnyH_take (i := 7) (oi := ⟨some 53, _, _, _, _, _⟩) (v := ?vqe8) rfl (by kernel_rfl) (by kernel_rfl) (by kernel_rfl) (fun _ _ _ h => h) (Or.inl ⟨by kernel_rfl, ?hyqe8⟩) (by assumption) ?restqe8
                case hyqe8 => (intro W hSw; (try dsimp only at hSw); go_simp; try with_reducible rfl)
                case' restqe8 => try simp only [Act.put, List.setIfInBounds_toArray, List.set_cons_zero, List.set_cons_succ]
                refine wpAnyH_take (i := 8) (oi := ⟨some 54, _, _, _, _, _⟩) (v := ?vqe9) rfl (by kernel_rfl) (by kernel_rfl) (by kernel_rfl) (fun _ _ _ h => h) (Or.inl ⟨by kernel_rfl, ?hyqe9⟩) (by assumption) ?restqe9
                case hyqe9 => (intro W hSw; (try dsimp only at hSw); go_simp; try with_reducible rfl)
                case' restqe9 => try simp only [Act.put, List.setIfInBounds_toArray, List.set_cons_zero, List.set_cons_succ]
                refine wpAnyH_take (i := 9) (oi := ⟨some 55, _, _, _, _, _⟩) (v := ?vqe10) rfl (by kernel_rfl) (by kernel_rfl) (by kernel_rfl) (fun _ _ _ h => h) (Or.inl ⟨by kernel_rfl, ?hyqe10⟩) (by assumption) ?restqe10
                case hyqe10 => (intro W hSw; (try dsimp only at hSw); go_simp; try with_reducible rfl)
                case' restqe10 => try simp only [Act.put, List.setIfInBounds_toArray, List.set_cons_zero, List.set_cons_succ]
                refine wpAnyH_take (i := 10) (oi := ⟨some 56, _, _, _, _, _⟩) (v := ?vqe11) rfl (by kernel_rfl) (by kernel_rfl) (by kernel_rfl) (fun _ _ _ h => h) (Or.inl ⟨by kernel_rfl, ?hyqe11⟩) (by assumption) ?restqe11
                case hyqe11 => (intro W hSw; (try dsimp only at hSw); go_simp; try with_reducible rfl)
                case' restqe11 => try simp only [Act.put, List.setIfInBounds_toArray, List.set_cons_zero, List.set_cons_succ]
                refine wpAnyH_take (i := 11) (oi := ⟨some 57, _, _, _, _, _⟩) (v := ?vqe12) rfl (by kernel_rfl) (by kernel_rfl) (by kernel_rfl) (fun _ _ _ h => h) (Or.inl ⟨by kernel_rfl, ?hyqe12⟩) (by assumption) ?restqe12
                case hyqe12 => (intro W hSw; have hg := hlx W hSw; (try dsimp only at hSw); go_simp; try with_reducible rfl)
                case' restqe12 => try simp only [Act.put, List.setIfInBounds_toArray, List.set_cons_zero, List.set_cons_succ]
                refine wpAnyH_take (i := 12) (oi := ⟨some 58, _, _, _, _, _⟩) (v := ?vqe13) rfl (by kernel_rfl) (by kernel_rfl) (by kernel_rfl) (fun _ _ _ h => h) (Or.inl ⟨by kernel_rfl, ?hyqe13⟩) (by assumption) ?restqe13
                case hyqe13 => (intro W hSw; (try dsimp only at hSw); go_simp; try with_reducible rfl)
                case' restqe13 => try simp only [Act.put, List.setIfInBounds_toArray, List.set_cons_zero, List.set_cons_succ]
                refine wpAnyH_take (i := 13) (oi := ⟨some 59, _, _, _, _, _⟩) (v := ?vqe14) rfl (by kernel_rfl) (by kernel_rfl) (by kernel_rfl) (fun _ _ _ h => h) (Or.inl ⟨by kernel_rfl, ?hyqe14⟩) (by assumption) ?restqe14
                case hyqe14 => (intro W hSw; (try dsimp only at hSw); go_simp; try with_reducible rfl)
                case' restqe14 => try simp only [Act.put, List.setIfInBounds_toArray, List.set_cons_zero, List.set_cons_succ]
                refine wpAnyH_take (i := 14) (oi := ⟨some 60, _, _, _, _, _⟩) (v := ?vqe15) rfl (by kernel_rfl) (by kernel_rfl) (by kernel_rfl) (fun _ _ _ h => h) (Or.inl ⟨by kernel_rfl, ?hyqe15⟩) (by assumption) ?restqe15
                case hyqe15 => (intro W hSw; (try dsimp only at hSw); go_simp; try with_reducible rfl)
                case' restqe15 => try simp only [Act.put, List.setIfInBounds_toArray, List.set_cons_zero, List.set_cons_succ]
                refine wpAnyH_take (i := 15) (oi := ⟨some 61, _, _, _, _, _⟩) (v := ?vqe16) rfl (by kernel_rfl) (by kernel_rfl) (by kernel_rfl) (fun _ _ _ h => h) (Or.inl ⟨by kernel_rfl, ?hyqe16⟩) (by assumption) ?restqe16
                case hyqe16 => (intro W hSw; have hg := hly W hSw; (try dsimp only at hSw); go_simp; try with_reducible rfl)
                case' restqe16 => try simp only [Act.put, List.setIfInBounds_toArray, List.set_cons_zero, List.set_cons_succ]
                refine wpAnyH_take (i := 16) (oi := ⟨some 62, _, _, _, _, _⟩) (v := ?vqe17) rfl (by kernel_rfl) (by kernel_rfl) (by kernel_rfl) (fun _ _ _ h => h) (Or.inl ⟨by kernel_rfl, ?hyqe17⟩) (by assumption) ?restqe17
                case hyqe17 => (intro W hSw; (try dsimp only at hSw); go_simp; try with_reducible rfl)
                case' restqe17 => try simp only [Act.put, List.setIfInBounds_toArray, List.set_cons_zero, List.set_cons_succ]
                refine wpAnyH_take (i := 17) (oi := ⟨some 63, _, _, _, _, _⟩) (v := ?vqe18) rfl (by kernel_rfl) (by kernel_rfl) (by kernel_rfl) (fun _ _ _ h => h) (Or.inl ⟨by kernel_rfl, ?hyqe18⟩) (by assumption) ?restqe18
                case hyqe18 => (intro W hSw; (try dsimp only at hSw); go_simp; try with_reducible rfl)
                case' restqe18 => try simp only [Act.put, List.setIfInBounds_toArray, List.set_cons_zero, List.set_cons_succ]
                refine wpAnyH_take (i := 18) (oi := ⟨some 64, _, _, _, _, _⟩) (v := ?vqe19) rfl (by kernel_rfl) (by kernel_rfl) (by kernel_rfl) (fun _ _ _ h => h) (Or.inl ⟨by kernel_rfl, ?hyqe19⟩) (by assumption) ?restqe19
                case hyqe19 => (intro W hSw; (try dsimp only at hSw); go_simp; try with_reducible rfl)
                case' restqe19 => try simp only [Act.put, List.setIfInBounds_toArray, List.set_cons_zero, List.set_cons_succ]
                refine wpAnyH_take (i := 19) (oi := ⟨some 45, _, _, _, _, _⟩) (v := ?vqe20) rfl (by kernel_rfl) (by kernel_rfl) (by kernel_rfl) (fun _ _ _ h => h) (Or.inl ⟨by kernel_rfl, ?hyqe20⟩) (by assumption) ?restqe20
                case hyqe20 => (intro W hSw; (try dsimp only at hSw); go_simp; try with_reducible rfl)
                case' restqe20 => try simp only [Act.put, List.setIfInBounds_toArray, List.set_cons_zero, List.set_cons_succ]
                refine wpAnyH_done (by kernel_rfl) ?_ _
                skip
                go_wp2_with fail
                have hS1 : (fun W : World => Below w3.heap.size w3 W) wr.drew.drew := hbw.drew.drew
                refine wp_region_held_drew (S := fun W : World => Below w3.heap.size w3 W) (by kernel_rfl) hS1 (fun hHeld => ?_)
                clear hHeld
                refine wpAnyH_take (i := 0) (oi := ⟨some 75, _, _, _, _, _⟩) (v := ?vre1) rfl (by kernel_rfl) (by kernel_rfl) (by kernel_rfl) (fun _ _ _ h => h) (Or.inl ⟨by kernel_rfl, ?hyre1⟩) (by assumption) ?restre1
                case hyre1 => (intro W hSw; (try dsimp only at hSw); go_simp; try with_reducible rfl)
                case' restre1 => try simp only [Act.put, List.setIfInBounds_toArray, List.set_cons_zero, List.set_cons_succ]
                refine wpAnyH_take (i := 1) (oi := ⟨some 76, _, _, _, _, _⟩) (v := ?vre2) rfl (by kernel_rfl) (by kernel_rfl) (by kernel_rfl) (fun _ _ _ h => h) (Or.inl ⟨by kernel_rfl, ?hyre2⟩) (by assumption) ?restre2
                case hyre2 => (intro W hSw; (try dsimp only at hSw); go_simp; try with_reducible rfl)
                case' restre2 => try simp only [Act.put, List.setIfInBounds_toArray, List.set_cons_zero, List.set_cons_succ]
                refine wpAnyH_take (i := 2) (oi := ⟨some 77, _, _, _, _, _⟩) (v := ?vre3) rfl (by kernel_rfl) (by kernel_rfl) (by kernel_rfl) (fun _ _ _ h => h) (Or.inl ⟨by kernel_rfl, ?hyre3⟩) (by assumption) ?restre3
                case hyre3 => (intro W hSw; (try dsimp only at hSw); go_simp; try with_reducible rfl)
                case' restre3 => try simp only [Act.put, List.setIfInBounds_toArray, List.set_cons_zero, List.set_cons_succ]
                refine wpAnyH_take (i := 3) (oi := ⟨some 78, _, _, _, _, _⟩) (v := ?vre4) rfl (by kernel_rfl) (by kernel_rfl) (by kernel_rfl) (fun _ _ _ h => h) (Or.inl ⟨by kernel_rfl, ?hyre4⟩) (by assumption) ?restre4
                case hyre4 => (intro W hSw; (try dsimp only at hSw); go_simp; try with_reducible rfl)
                case' restre4 => try simp only [Act.put, List.setIfInBounds_toArray, List.set_cons_zero, List.set_cons_succ]
                refine wpAnyH_take (i := 4) (oi := ⟨some 79, _, _, _, _, _⟩) (v := ?vre5) rfl (by kernel_rfl) (by kernel_rfl) (by kernel_rfl) (fun _ _ _ h => h) (Or.inl ⟨by kernel_rfl, ?hyre5⟩) (by assumption) ?restre5
                case hyre5 => (intro W hSw; (try dsimp only at hSw); go_simp; try with_reducible rfl)
                case' restre5 => try simp only [Act.put, List.setIfInBounds_toArray, List.set_cons_zero, List.set_cons_succ]
                refine wpAnyH_take (i := 5) (oi := ⟨some 80, _, _, _, _, _⟩) (v := ?vre6) rfl (by kernel_rfl) (by kernel_rfl) (by kernel_rfl) (fun _ _ _ h => h) (Or.inl ⟨by kernel_rfl, ?hyre6⟩) (by assumption) ?restre6
                case hyre6 => (intro W hSw; (try dsimp only at hSw); go_simp; try with_reducible rfl)
                case' restre6 => try simp only [Act.put, List.setIfInBounds_toArray, List.set_cons_zero, List.set_cons_succ]
                refine wpAnyH_take (i := 6) (oi := ⟨some 81, _, _, _, _, _⟩) (v := ?vre7) rfl (by kernel_rfl) (by kernel_rfl) (by kernel_rfl) (fun _ _ _ h => h) (Or.inl ⟨by kernel_rfl, ?hyre7⟩) (by assumption) ?restre7
                case hyre7 => (intro W hSw; (try dsimp only at hSw); go_simp; try with_reducible rfl)
                case' restre7 => try simp only [Act.put, List.setIfInBounds_toArray, List.set_cons_zero, List.set_cons_succ]
                refine wpAnyH_take (i := 7) (oi := ⟨some 82, _, _, _, _, _⟩) (v := ?vre8) rfl (by kernel_rfl) (by kernel_rfl) (by kernel_rfl) (fun _ _ _ h => h) (Or.inl ⟨by kernel_rfl, ?hyre8⟩) (by assumption) ?restre8
                case hyre8 => (intro W hSw; have hg := hly W hSw; (try dsimp only at hSw); go_simp; try with_reducible rfl)
                case' restre8 => try simp only [Act.put, List.setIfInBounds_toArray, List.set_cons_zero, List.set_cons_succ]
                refine wpAnyH_take (i := 8) (oi := ⟨some 83, _, _, _, _, _⟩) (v := ?vre9) rfl (by kernel_rfl) (by kernel_rfl) (by kernel_rfl) (fun _ _ _ h => h) (Or.inl ⟨by kernel_rfl, ?hyre9⟩) (by assumption) ?restre9
                case hyre9 => (intro W hSw; (try dsimp only at hSw); go_simp; try with_reducible rfl)
                case' restre9 => try simp only [Act.put, List.setIfInBounds_toArray, List.set_cons_zero, List.set_cons_succ]
                refine wpAnyH_take (i := 9) (oi := ⟨some 84, _, _, _, _, _⟩) (v := ?vre10) rfl (by kernel_rfl) (by kernel_rfl) (by kernel_rfl) (fun _ _ _ h => h) (Or.inl ⟨by kernel_rfl, ?hyre10⟩) (by assumption) ?restre10
                case hyre10 => (intro W hSw; (try dsimp only at hSw); go_simp; try with_reducible rfl)
                case' restre10 => try simp only [Act.put, List.setIfInBounds_toArray, List.set_cons_zero, List.set_cons_succ]
                refine wpAnyH_take (i := 10) (oi := ⟨some 85, _, _, _, _, _⟩) (v := ?vre11) rfl (by kernel_rfl) (by kernel_rfl) (by kernel_rfl) (fun _ _ _ h => h) (Or.inl ⟨by kernel_rfl, ?hyre11⟩) (by assumption) ?restre11
                case hyre11 => (intro W hSw; (try dsimp only at hSw); go_simp; try with_reducible rfl)
                case' restre11 => try simp only [Act.put, List.setIfInBounds_toArray, List.set_cons_zero, List.set_cons_succ]
                refine wpAnyH_take (i := 11) (oi := ⟨some 86, _, _, _, _, _⟩) (v := ?vre12) rfl (by kernel_rfl) (by kernel_rfl) (by kernel_rfl) (fun _ _ _ h => h) (Or.inl ⟨by kernel_rfl, ?hyre12⟩) (by assumption) ?restre12
                case hyre12 => (intro W hSw; have hg := hlx W hSw; (try dsimp only at hSw); go_simp; try with_reducible rfl)
                case' restre12 => try simp only [Act.put, List.setIfInBounds_toArray, List.set_cons_zero, List.set_cons_succ]
                refine wpAnyH_take (i := 12) (oi := ⟨some 87, _, _, _, _, _⟩) (v := ?vre13) rfl (by kernel_rfl) (by kernel_rfl) (by kernel_rfl) (fun _ _ _ h => h) (Or.inl ⟨by kernel_rfl, ?hyre13⟩) (by assumption) ?restre13
                case hyre13 => (intro W hSw; (try dsimp only at hSw); go_simp; try with_reducible rfl)
                case' restre13 => try simp only [Act.put, List.setIfInBounds_toArray, List.set_cons_zero, List.set_cons_succ]
                refine wpAnyH_take (i := 13) (oi := ⟨some 88, _, _, _, _, _⟩) (v := ?vre14) rfl (by kernel_rfl) (by kernel_rfl) (by kernel_rfl) (fun _ _ _ h => h) (Or.inl ⟨by kernel_rfl, ?hyre14⟩) (by assumption) ?restre14
                case hyre14 => (intro W hSw; (try dsimp only at hSw); go_simp; try with_reducible rfl)
                case' restre14 => try simp only [Act.put, List.setIfInBounds_toArray, List.set_cons_zero, List.set_cons_succ]
                refine wpAnyH_take (i := 14) (oi := ⟨some 74, _, _, _, _, _⟩) (v := ?vre15) rfl (by kernel_rfl) (by kernel_rfl) (by kernel_rfl) (fun _ _ _ h => h) (Or.inl ⟨by kernel_rfl, ?hyre15⟩) (by assumption) ?restre15
                case hyre15 => (intro W hSw; (try dsimp only at hSw); go_simp; try with_reducible rfl)
                case' restre15 => try simp only [Act.put, List.setIfInBounds_toArray, List.set_cons_zero, List.set_cons_succ]
                refine wpAnyH_done (by kernel_rfl) ?_ _
                skip
                go_wp2_with fail
                have hS2 : (fun W : World => Below w3.heap.size w3 W) wr.drew.drew.drew := hbw.drew.drew.drew
                have od : Own 65 5 encD wr.drew.drew.drew w3.heap.size u4 L := hown.below (Below.refl _ _).drew.drew.drew
                refine wp_region_held_drew (S := fun W : World => Below w3.heap.size w3 W) (by kernel_rfl) hS2 (fun hHeld => ?_)
                clear hHeld
                refine wpAnyH_take (i := 0) (oi := ⟨some 32, _, _, _, _, _⟩) (v := ?vse1) rfl (by kernel_rfl) (by kernel_rfl) (by kernel_rfl) (fun _ _ _ h => h) (Or.inl ⟨by kernel_rfl, ?hyse1⟩) (by assumption) ?restse1
                case hyse1 => (intro W hSw; (try dsimp only at hSw); go_simp; try with_reducible rfl)
                case' restse1 => try simp only [Act.put, List.setIfInBounds_toArray, List.set_cons_zero, List.set_cons_succ]
                refine wpAnyH_take (i := 1) (oi := ⟨some 33, _, _, _, _, _⟩) (v := ?vse2) rfl (by kernel_rfl) (by kernel_rfl) (by kernel_rfl) (fun _ _ _ h => h) (Or.inl ⟨by kernel_rfl, ?hyse2⟩) (by assumption) ?restse2
                case hyse2 => (intro W hSw; (try dsimp only at hSw); go_simp; try with_reducible rfl)
                case' restse2 => try simp only [Act.put, List.setIfInBounds_toArray, List.set_cons_zero, List.set_cons_succ]
                refine wpAnyH_take (i := 2) (oi := ⟨some 34, _, _, _, _, _⟩) (v := ?vse3) rfl (by kernel_rfl) (by kernel_rfl) (by kernel_rfl) (fun _ _ _ h => h) (Or.inl ⟨by kernel_rfl, ?hyse3⟩) (by assumption) ?restse3
                case hyse3 => (intro W hSw; refine Try.exec59 x (.tmp 33) ?_ ppx offx ?_ (hrax W (k3.trans (hSw.mono k3.size))) <;> rfl)
                case' restse3 => try simp only [Act.put, List.setIfInBounds_toArray, List.set_cons_zero, List.set_cons_succ]
                refine wpAnyH_take (i := 3) (oi := ⟨some 35, _, _, _, _, _⟩) (v := ?vse4) rfl (by kernel_rfl) (by kernel_rfl) (by kernel_rfl) (fun _ _ _ h => h) (Or.inl ⟨by kernel_rfl, ?hyse4⟩) (by assumption) ?restse4
                case hyse4 => (intro W hSw; (try dsimp only at hSw); go_simp; try with_reducible rfl)
                case' restse4 => try simp only [Act.put, List.setIfInBounds_toArray, List.set_cons_zero, List.set_cons_succ]
                refine wpAnyH_take (i := 4) (oi := ⟨some 36, _, _, _, _, _⟩) (v := ?vse5) rfl (by kernel_rfl) (by kernel_rfl) (by kernel_rfl) (fun _ _ _ h => h) (Or.inl ⟨by kernel_rfl, ?hyse5⟩) (by assumption) ?restse5
                case hyse5 => (intro W hSw; (try dsimp only at hSw); go_simp; try with_reducible rfl)
                case' restse5 => try simp only [Act.put, List.setIfInBounds_toArray, List.set_cons_zero, List.set_cons_succ]
                refine wpAnyH_take (i := 5) (oi := ⟨some 37, _, _, _, _, _⟩) (v := ?vse6) rfl (by kernel_rfl) (by kernel_rfl) (by kernel_rfl) (fun _ _ _ h => h) (Or.inl ⟨by kernel_rfl, ?hyse6⟩) (by assumption) ?restse6
                case hyse6 => (intro W hSw; refine Try.exec59 y (.tmp 36) ?_ ppy offy ?_ (hray W (k3.trans (hSw.mono k3.size))) <;> rfl)
                case' restse6 => try simp only [Act.put, List.setIfInBounds_toArray, List.set_cons_zero, List.set_cons_succ]
                refine wpAnyH_ready (rs := [6]) (by kernel_rfl) (by simp) ?_
                refine AllReadyH.cons (o := ⟨some 38, _, _, _, _, _⟩) rfl (fun K hK => ?_) AllReadyH.nil
                go_simp
                go_at_call 22
                refine (proof_sheet x.s y.s x.p y.p wr.drew.drew.drew hfx hfy (hrdx.below (k3.trans (hS2.mono k3.size))) (hrdy.below (k3.trans (hS2.mono k3.size)))).mono ?_
                rintro e Wse1 ⟨vd, rfl, hSD, hbWse1⟩
                replace od := od.below hbWse1
                have hSWse1 := hS2.trans (hbWse1.mono hS2.size)
                try clear hS2
                clear hbWse1
                go_wp2_with fail
                refine hK.out _ _ hSWse1 (fun hHeld => ?_)
                clear hK hHeld K
                try simp only [Act.put, List.setIfInBounds_toArray, List.set_cons_zero, List.set_cons_succ]
                refine wpAnyH_take (i := 7) (oi := ⟨some 31, _, _, _, _, _⟩) (v := ?vse7) rfl (by kernel_rfl) (by kernel_rfl) (by kernel_rfl) (fun _ _ _ h => h) (Or.inl ⟨by kernel_rfl, ?hyse7⟩) (by assumption) ?restse7
                case hyse7 => (intro W hSw; (try dsimp only at hSw); go_simp; try with_reducible rfl)
                case' restse7 => try simp only [Act.put, List.setIfInBounds_toArray, List.set_cons_zero, List.set_cons_succ]
                refine wpAnyH_take (i := 8) (oi := ⟨some 39, _, _, _, _, _⟩) (v := ?vse8) rfl (by kernel_rfl) (by kernel_rfl) (by kernel_rfl) (fun _ _ _ h => h) (Or.inl ⟨by kernel_rfl, ?hyse8⟩) (by assumption) ?restse8
                case hyse8 => (intro W hSw; (try dsimp only at hSw); go_simp; try with_reducible rfl)
                case' restse8 => try simp only [Act.put, List.setIfInBounds_toArray, List.set_cons_zero, List.set_cons_succ]
                refine wpAnyH_take (i := 9) (oi := ⟨some 40, _, _, _, _, _⟩) (v := ?vse9) rfl (by kernel_rfl) (by kernel_rfl) (by kernel_rfl) (fun _ _ _ h => h) (Or.inl ⟨by kernel_rfl, ?hyse9⟩) (by assumption) ?restse9
                case hyse9 => (intro W hSw; (try dsimp only at hSw); go_simp; try with_reducible rfl)
                case' restse9 => try simp only [Act.put, List.setIfInBounds_toArray, List.set_cons_zero, List.set_cons_succ]
                refine wpAnyH_take (i := 10) (oi := ⟨some 8, _, _, _, _, _⟩) (v := ?vse10) rfl (by kernel_rfl) (by kernel_rfl) (by kernel_rfl) (fun _ _ _ h => h) (Or.inl ⟨by kernel_rfl, ?hyse10⟩) (by assumption) ?restse10
                case hyse10 => (intro W hSw; (try dsimp only at hSw); go_simp; try with_reducible rfl)
                case' restse10 => try simp only [Act.put, List.setIfInBounds_toArray, List.set_cons_zero, List.set_cons_succ]
                refine wpAnyH_take (i := 11) (oi := ⟨some 5, _, _, _, _, _⟩) (v := ?vse11) rfl (by kernel_rfl) (by kernel_rfl) (by kernel_rfl) (fun _ _ _ h => h) (Or.inl ⟨by kernel_rfl, ?hyse11⟩) (by assumption) ?restse11
                case hyse11 => (intro W hSw; (try dsimp only at hSw); go_simp; try with_reducible rfl)
                case' restse11 => try simp only [Act.put, List.setIfInBounds_toArray, List.set_cons_zero, List.set_cons_succ]
                refine wpAnyH_done (by kernel_rfl) ?_ _
                skip
                go_wp2_with fail
                have hS3 : (fun W : World => Below w3.heap.size w3 W) Wse1.drew := Below.drew hSWse1
                refine wp_region_held_drew (S := fun W : World => Below w3.heap.size w3 W) (by kernel_rfl) hS3 (fun hHeld => ?_)
                clear hHeld
                refine wpAnyH_take (i := 0) (oi := ⟨some 41, _, _, _, _, _⟩) (v := ?vte1) rfl (by kernel_rfl) (by kernel_rfl) (by kernel_rfl) (fun _ _ _ h => h) (Or.inl ⟨by kernel_rfl, ?hyte1⟩) (by assumption) ?restte1
                case hyte1 => (intro W hSw; (try dsimp only at hSw); go_simp; try with_reducible rfl)
                case' restte1 => try simp only [Act.put, List.setIfInBounds_toArray, List.set_cons_zero, List.set_cons_succ]
                refine wpAnyH_take (i := 1) (oi := ⟨some 42, _, _, _, _, _⟩) (v := ?vte2) rfl (by kernel_rfl) (by kernel_rfl) (by kernel_rfl) (fun _ _ _ h => h) (Or.inl ⟨by kernel_rfl, ?hyte2⟩) (by assumption) ?restte2
                case hyte2 => (intro W hSw; refine Try.execS41 (.tmp 41) ?_ ppx offx X1.length cx offx' hofx ?_ hcx <;> rfl)
                case' restte2 => try simp only [Act.put, List.setIfInBounds_toArray, List.set_cons_zero, List.set_cons_succ]
                refine wpAnyH_take (i := 2) (oi := ⟨some 43, _, _, _, _, _⟩) (v := ?vte3) rfl (by kernel_rfl) (by kernel_rfl) (by kernel_rfl) (fun _ _ _ h => h) (Or.inl ⟨by kernel_rfl, ?hyte3⟩) (by assumption) ?restte3
                case hyte3 => (intro W hSw; (try dsimp only at hSw); go_simp; try with_reducible rfl)
                case' restte3 => try simp only [Act.put, List.setIfInBounds_toArray, List.set_cons_zero, List.set_cons_succ]
                refine wpAnyH_take (i := 3) (oi := ⟨some 44, _, _, _, _, _⟩) (v := ?vte4) rfl (by kernel_rfl) (by kernel_rfl) (by kernel_rfl) (fun _ _ _ h => h) (Or.inl ⟨by kernel_rfl, ?hyte4⟩) (by assumption) ?restte4
                case hyte4 => (intro W hSw; refine Try.execS41 (.tmp 43) ?_ ppy offy Y1.length cy offy' hofy ?_ hcy <;> rfl)
                case' restte4 => try simp only [Act.put, List.setIfInBounds_toArray, List.set_cons_zero, List.set_cons_succ]
                refine wpAnyH_take (i := 4) (oi := ⟨some 6, _, _, _, _, _⟩) (v := ?vte5) rfl (by kernel_rfl) (by kernel_rfl) (by kernel_rfl) (fun _ _ _ h => h) (Or.inl ⟨by kernel_rfl, ?hyte5⟩) (by assumption) ?restte5
                case hyte5 => (intro W hSw; (try dsimp only at hSw); go_simp; try with_reducible rfl)
                case' restte5 => try simp only [Act.put, List.setIfInBounds_toArray, List.set_cons_zero, List.set_cons_succ]
                refine wpAnyH_take (i := 5) (oi := ⟨some 7, _, _, _, _, _⟩) (v := ?vte6) rfl (by kernel_rfl) (by kernel_rfl) (by kernel_rfl) (fun _ _ _ h => h) (Or.inl ⟨by kernel_rfl, ?hyte6⟩) (by assumption) ?restte6
                case hyte6 => (intro W hSw; (try dsimp only at hSw); go_simp; try with_reducible rfl)
                case' restte6 => try simp only [Act.put, List.setIfInBounds_toArray, List.set_cons_zero, List.set_cons_succ]
                refine wpAnyH_done (by kernel_rfl) ?_ _
                skip
                go_wp2_with fail
                go_meet
                exact ⟨.two x y, X1, Y1, rfl, hTx, hTy, hSD.below (Below.refl _ _).drew, mgB X1 Y1 HLT.out, by simp only [List.length_cons]; omega, by simp at hl12 ⊢; omega, od.below (Below.refl _ _).drew, hS3⟩

      case rest =>
        have hYl := lenOf_P hY
        as_aux_lemma =>
          obtain ⟨st, X', Y', rfl, hX', hY', hSD, hmg, hdec, h12, hown', hbc⟩ := hcut
          clear hown hbw kk
          have HM := Lib.hid hmg
          have HD := Lib.hid hdec
          clear hmg hdec
          have kc := k3.trans (hbc.mono k3.size)
          have hlen := stD_len st
          have hLL := HL1.out
          have hsz := hbc.size
          simp only [List.length_nil, List.length_cons] at hLL
          obtain ⟨r, hr⟩ : ∃ r, stE st = r := ⟨_, rfl⟩
          rw [hr]
          have HR := Lib.hid hr
          clear hr
          by_cases hz : r = 0
          · subst hz
            have hN : L.length + (stD st).length ≤ 1000000000 := by omega
            have HLEN := Lib.hid hlen
            have HLL := Lib.hid hLL
            clear hlen hLL
            go_wp2_with (at_builtin; refine Try.appAllD hown' hSD rfl _ _ rfl rfl rfl hN hsz ?_; intro v2 w2 hown2 hb2)
            go_roundw
            case rel => exact ⟨X', Y', L ++ stD st, rfl, hX', hY', hown2, (by have h1 := HLEN.out; have h2 := HLL.out; have h3 := HD.out; simp only [List.length_nil, List.length_cons] at h3; rw [List.length_append]; omega), (by rw [HE1.out, HM.out, ev_ok HR.out]), (by rw [HA1.out, HM.out, ev_app]), hbc.trans hb2⟩
            case measure => (rw [lenOf_P hX', lenOf_P hY']; have h3 := HD.out; simp only [List.length_nil, List.length_cons] at h3; rw [hYl]; show _ < (X1.length + 1) + _; omega)
          · have hrb : (r != 0) = true := by simp [hz]
            have hrc : (r == 0) = false := by simp [hz]
            have HZ := Lib.hid hz
            clear hz
            go_wp2
            go_ret2
            exact difPost_err (by rw [HE.out.1, (ev_err HR.out HZ.out (by rw [HE1.out, HM.out])).1]) HZ.out (by rw [HE.out.2, (ev_err HR.out HZ.out (by rw [HE1.out, HM.out])).2]) kc

end Go.Proofs
