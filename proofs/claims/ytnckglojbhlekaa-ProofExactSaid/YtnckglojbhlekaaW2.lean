/- edition. -/
import Derived.Test.YtnckglojbhlekaaW1
set_option linter.unusedVariables false
set_option linter.unusedSimpArgs false
namespace Go.Proofs
open Go.RowKit Go.Proofs.Mp

theorem Try.infoQ : (Try.prog.info? 59).map (fun i => (i.zero, i.size, i.bytes)) = some (some (aggQ z0.s z0.p), 19, 280) := by kernel_rfl
theorem Try.execL25 {o : Oper} {a : Act} {w : World} (q : P4) (x : Operand) (ho : o.op = .load 25 x)
    (b off : Nat) (hx : a.eval x = .pointer (some ⟨b, off, none⟩)) (hc : w.rangeAt b off (cells4 q)) : (execOp a.eval o).run Try.prog w = .ok (.value (.agg #[.int .i64 q.p0.w, .int .i64 q.p0.h, .slice q.p0.a q.p0.v.length q.p0.c, .int .i64 q.p1.w, .int .i64 q.p1.h, .slice q.p1.a q.p1.v.length q.p1.c, .int .i64 q.p2.w, .int .i64 q.p2.h, .slice q.p2.a q.p2.v.length q.p2.c, .int .i64 q.p3.w, .int .i64 q.p3.h, .slice q.p3.a q.p3.v.length q.p3.c])) w := by
  rcases yieldsIf_load_mid (P := Try.prog) (ops := #[]) (S := fun W => W = w) (op := { o with guard := none }) (a := a) (by simp [Region.wanted]) 25 x ho b off hx (cells4 q) _ (fun W hW => hW ▸ hc) Try.underlying25 rfl Try.size25 with ⟨_, h⟩ | ⟨h, _⟩
  · have := h w rfl
    unfold execOp at this ⊢
    exact this
  · simp [Region.wanted] at h
/-- a list of one product, just laid -/
theorem rd_one (w : World) (x : Pd) : Rd 19 encQ (w.alloc (.cells #[.int .i64 x.s, .int .i64 0, .slice none 0 0, .slice none 0 0, .slice none 0 0, .slice none 0 0, .int .i64 x.p.p0.w, .int .i64 x.p.p0.h, .slice x.p.p0.a x.p.p0.v.length x.p.p0.c, .int .i64 x.p.p1.w, .int .i64 x.p.p1.h, .slice x.p.p1.a x.p.p1.v.length x.p.p1.c, .int .i64 x.p.p2.w, .int .i64 x.p.p2.h, .slice x.p.p2.a x.p.p2.v.length x.p.p2.c, .int .i64 x.p.p3.w, .int .i64 x.p.p3.h, .slice x.p.p3.a x.p.p3.v.length x.p.p3.c, .int .u64 0] 59)) (some ⟨w.heap.size, 0, none⟩) [x] :=
  rd_new encQ_len w _ 59 [x] rfl
def SlQ1 (w : World) (v : Value) (x : Pd) : Prop := ∃ A c, v = .slice A 1 c ∧ Rd 19 encQ w A [x]
theorem Ed.app {w : World} {base : Nat} {v u : Value} {xs : List Pd} {y : Pd} {ops : Array Oper} {o : Oper} {a : Act} {K : Act → World → Prop} {Q : Exit → Act → World → Prop} {E : Prop}
    (hown : Own 59 19 encQ w base v xs) (hR : SlQ1 w u y) (hgd : o.guard = none) (s x : Operand)
    (ho : o.op = .call { callee := .builtin .append, args := #[s, x], argTypes := #[41, 41] }) (hs : a.eval s = v) (hx : a.eval x = u)
    (hN : xs.length ≤ 1000) (hbase : base ≤ w.heap.size)
    (h : ∀ v' w', Own 59 19 encQ w' base v' (xs ++ [y]) → Below base w w' → K (a.put o.dst v') w') :
    if Region.wanted o (yielded ops a.tmps) = true then Oper.wp Try.prog o a w K Q else E := by
  have hw : Region.wanted o (yielded ops a.tmps) = true := by simp [Region.wanted, hgd]
  rw [if_pos hw]
  obtain ⟨i0, hi, hz0, hz1, hz2⟩ := Mp.info_parts Try.infoQ
  obtain ⟨A, c, rfl, hRd⟩ := hR
  exact Own.wpAll 41 i0 (aggQ z0.s z0.p) 280 Try.underlying41 hi hz0 hz1 hz2 rfl (by decide) (by decide) encQ_len encQ_one s x ho hown hs (ys := [y]) hRd hx (by simp; omega) hbase h
theorem wpList_storeRow {P : Program} {ops : Array Oper} {rest : List Oper} {o : Oper} {a : Act} {Q : Exit → Act → World → Prop} {w : World} (t : TypeId) (cells : List Value) {old : List Value} (hgd : o.guard = none) (X Y : Operand) (ho : o.op = .store t X Y)
    (b : Nat) (hx : a.eval X = .pointer (some ⟨b, 0, none⟩)) (hy : a.eval Y = .agg cells.toArray) (hr : Mp.Row w b t old) (hsz : (P.info? t).map (·.size) = some cells.length) (hl : old.length = cells.length) (h1 : ∀ v ∈ cells, v.oneCell' = true)
    (h : wpList P ops Q rest (a.put o.dst undef) (w.setRow b cells.toArray)) : wpList P ops Q (o :: rest) a w :=
  wpList_plain hgd fun _ hK => by
    have hst := run_storeVar_row (P := P) w b t t old.toArray cells.toArray hr (by simpa using hsz) (by simp [hl]) (all_oneCell_toArray h1)
    unfold Oper.wp execOp
    simp only [ho, hx, hy, Instr.storeAt, Instr.sureAddr, Sem.run_bind, Sem.run_pure, Result.andThen_ok, hst]
    exact hK _ _ h
theorem Try.size44 : (Try.prog.info? 44).map (·.size) = some 3 := by kernel_rfl
theorem Try.res18 (w : World) (b : Nat) (u : Value) (tm : Array Value) (h2 : tm.getD 2 undef = .pointer (some ⟨b, 0, none⟩)) (h : w.rangeAt b 0 [.int .i64 0, u, .slice none 0 0]) :
    (results Try.f18 tm).run Try.prog w = .ok (aggE u) w := by
  have hl := run_loadVar_mid (P := Try.prog) w b 0 44 [.int .i64 0, u, .slice none 0 0] _ h Try.underlying44 rfl Try.size44
  unfold results
  rw [Try.results18]
  simp only [Array.getD_eq_getD_getElem?] at h2
  simp [h2, hl, asAddr, Sem.run_bind, Sem.run_pure, aggE]
/-- the two variables of edition -/
def Ed2 (w : World) (W : World) (u : Value) : Prop := Mp.Row W w.heap.size 44 [.int .i64 0, .slice none 0 0, .slice none 0 0] ∧ Mp.Row W (w.heap.size + 1) 44 [.int .i64 0, u, .slice none 0 0]
theorem Ed2.alloc {w W : World} {u : Value} (h : Ed2 w W u) (o : Obj) : Ed2 w (W.alloc o) u := ⟨h.1.alloc o, h.2.alloc o⟩
theorem Ed2.below {w W W' : World} {u : Value} (h : Ed2 w W u) (hb : Below (w.heap.size + 2) W W') : Ed2 w W' u := ⟨h.1.below hb (by omega), h.2.below hb (by omega)⟩
theorem Ed2.lt {w W : World} {u : Value} (h : Ed2 w W u) : w.heap.size + 2 ≤ W.heap.size := h.2.lt
theorem Ed2.store {w W : World} {u v : Value} {xs : List Pd} (h : Ed2 w W u) (hown : Own 59 19 encQ W (w.heap.size + 2) v xs) (hb : Below w.heap.size w W) :
    Ed2 w (W.setCell ⟨w.heap.size + 1, 1, none⟩ v) v ∧ Own 59 19 encQ (W.setCell ⟨w.heap.size + 1, 1, none⟩ v) (w.heap.size + 2) v xs ∧ Below w.heap.size w (W.setCell ⟨w.heap.size + 1, 1, none⟩ v) := by
  rw [h.2.cellSet 1 v]
  refine ⟨⟨h.1.setOther (by omega) _, h.2.setSame _⟩, ?_, below_setRow hb (by omega) _⟩
  obtain ⟨h1, h2⟩ := hown
  refine ⟨h1, ?_⟩
  rcases h2 with h2 | ⟨g, cap, cur, hv, hg, hh, r⟩
  · exact .inl h2
  · exact .inr ⟨g, cap, cur, hv, hg, by rw [setRow_other _ _ _ _ (by omega)]; exact hh, r⟩
theorem slP_own {w : World} {base : Nat} {v : Value} {xs : List Pd} (h : Own 59 19 encQ w base v xs) (hl : xs.length ≤ 6) (hP : ∀ x ∈ xs, Few4 x.p 200 ∧ Rd4 w x.p) : SlP w v xs := by
  have h0 := h
  rcases h.2 with ⟨rfl, hn⟩ | ⟨g, cap, cur, rfl, _, _, hnc, _⟩
  · exact ⟨none, 0, by rw [hn], by omega, hl, Own.rd encQ_len h0, hP⟩
  · exact ⟨_, cap, rfl, hnc, hl, Own.rd encQ_len h0, hP⟩

set_option maxRecDepth 100000 in
set_option maxHeartbeats 2000000 in
theorem edition_any (v : Value) (xs : List Pd) (w : World) (hl : xs.length ≤ 6) (hF : ∀ x ∈ xs, Few4 x.p 200) (h : SlC w v xs) :
    Calls Try.prog 18 #[v] w (fun e w' => ∃ u, e = .returned (aggE u) ∧ SlP w' u xs ∧ Below w.heap.size w w') := by
  obtain ⟨A, c, rfl, h1, hR, hP⟩ := h
  have HR := Lib.hid hR
  have HP := Lib.hid (fun x hx => And.intro (hF x hx) (hP x hx).2)
  clear hR hP h1 hF
  go_enter Try.func18, Try.ntmps18
  go_wp2
  have hst : Ed2 w ((w.alloc (.cells #[.int .i64 0, .slice none 0 0, .slice none 0 0] 44)).alloc (.cells #[.int .i64 0, .slice none 0 0, .slice none 0 0] 44)) (.slice none 0 0) :=
    ⟨(Row.newAt rfl rfl).alloc _, Row.newAt (by simp) rfl⟩
  have hb0 : Below w.heap.size w ((w.alloc (.cells #[.int .i64 0, .slice none 0 0, .slice none 0 0] 44)).alloc (.cells #[.int .i64 0, .slice none 0 0, .slice none 0 0] 44)) := (bw1 _ _).alloc (by simp) _
  go_loopw [4] (fun i wr => ∃ (k : Nat) (u : Value), k ≤ xs.length ∧ i = .int .i64 k ∧ Ed2 w wr u ∧ Own 59 19 encQ wr (w.heap.size + 2) u (xs.take k) ∧ Below w.heap.size w wr) (fun i _ => xs.length - (intOf i).toNat)
  case atStart => exact ⟨0, _, Nat.zero_le _, rfl, hst, Own.nil _ _, hb0⟩
  case round =>
    obtain ⟨k, u, hk, rfl, hed, hown, hbw⟩ := hrel
    clear hst hb0
    by_cases hlt : k < xs.length
    · obtain ⟨x, hx⟩ : ∃ x, xs[k]! = x := ⟨_, rfl⟩
      have HT : Hid (xs.take (k + 1) = xs.take k ++ [x]) := Lib.hid (by rw [List.take_succ_eq_append_getElem hlt, ← hx, getElem!_pos xs k hlt])
      obtain ⟨b, off, rfl, hb, _, _⟩ := Rd.rangeC HR.out hbw hlt
      have HC := Lib.hid (fun (W : World) (hW : Below w.heap.size w W) => (by obtain ⟨b', off', e, _, e1, e2⟩ := Rd.rangeC HR.out hW hlt; injection e with e; injection e with e3 e4; subst e3; subst e4; rw [hx] at e1 e2; exact ⟨e1, e2⟩ : W.cell? ⟨b, off + k * 13, none⟩ = some (.int .i64 x.s) ∧ W.rangeAt b (off + k * 13 + 1) (cells4 x.p)))
      have hlen : (xs.take k).length ≤ 1000 := by rw [List.length_take]; omega
      obtain ⟨L, hL⟩ : ∃ L, xs.take k = L := ⟨_, rfl⟩
      rw [hL] at HT hown hlen
      have hd : decide (k < xs.length) = true := decide_eq_true hlt
      clear hx hL
      have hS0 : (fun W : World => Below w.heap.size w W) wr.drew := hbw.drew
      have fO : Own 59 19 encQ wr.drew (w.heap.size + 2) u L := hown
      have fR : Ed2 w wr.drew u := hed
      clear hown hed
      go_wp2_with fail
      refine wp_region_held_drew (S := fun W : World => Below w.heap.size w W) (by kernel_rfl) hS0 (fun hHeld => ?_)
      clear hHeld
      generalize wr.drew = wz at *
      refine wpAnyH_take (i := 0) (oi := ⟨some 11, _, _, _, _, _⟩) (v := ?vra1) rfl (by kernel_rfl) (by kernel_rfl) (by kernel_rfl) (fun _ _ _ h => h) (Or.inl ⟨by kernel_rfl, ?hyra1⟩) (by assumption) ?restra1
      case hyra1 => (intro W hSw; (try dsimp only at hSw); go_simp; try with_reducible rfl)
      case' restra1 => try simp only [Act.put, List.setIfInBounds_toArray, List.set_cons_zero, List.set_cons_succ]
      refine wpAnyH_take (i := 2) (oi := ⟨some 13, _, _, _, _, _⟩) (v := ?vra2) rfl (by kernel_rfl) (by kernel_rfl) (by kernel_rfl) (fun _ _ _ h => h) (Or.inl ⟨by kernel_rfl, ?hyra2⟩) (by assumption) ?restra2
      case hyra2 => (intro W hSw; (try dsimp only at hSw); go_simp; try with_reducible rfl)
      case' restra2 => try simp only [Act.put, List.setIfInBounds_toArray, List.set_cons_zero, List.set_cons_succ]
      refine wpAnyH_take (i := 3) (oi := ⟨some 14, _, _, _, _, _⟩) (v := ?vra3) rfl (by kernel_rfl) (by kernel_rfl) (by kernel_rfl) (fun _ _ _ h => h) (Or.inl ⟨by kernel_rfl, ?hyra3⟩) (by assumption) ?restra3
      case hyra3 => (intro W hSw; (try dsimp only at hSw); go_simp; try with_reducible rfl)
      case' restra3 => try simp only [Act.put, List.setIfInBounds_toArray, List.set_cons_zero, List.set_cons_succ]
      refine wpAnyH_take (i := 4) (oi := ⟨some 15, _, _, _, _, _⟩) (v := ?vra4) rfl (by kernel_rfl) (by kernel_rfl) (by kernel_rfl) (fun _ _ _ h => h) (Or.inl ⟨by kernel_rfl, ?hyra4⟩) (by assumption) ?restra4
      case hyra4 => (intro W hSw; (try dsimp only at hSw); go_simp; try with_reducible rfl)
      case' restra4 => try simp only [Act.put, List.setIfInBounds_toArray, List.set_cons_zero, List.set_cons_succ]
      refine wpAnyH_take (i := 5) (oi := ⟨some 16, _, _, _, _, _⟩) (v := ?vra5) rfl (by kernel_rfl) (by kernel_rfl) (by kernel_rfl) (fun _ _ _ h => h) (Or.inl ⟨by kernel_rfl, ?hyra5⟩) (by assumption) ?restra5
      case hyra5 => (intro W hSw; (try dsimp only at hSw); go_simp; try with_reducible rfl)
      case' restra5 => try simp only [Act.put, List.setIfInBounds_toArray, List.set_cons_zero, List.set_cons_succ]
      refine wpAnyH_take (i := 6) (oi := ⟨some 17, _, _, _, _, _⟩) (v := ?vra6) rfl (by kernel_rfl) (by kernel_rfl) (by kernel_rfl) (fun _ _ _ h => h) (Or.inl ⟨by kernel_rfl, ?hyra6⟩) (by assumption) ?restra6
      case hyra6 => (intro W hSw; have hg := (HC.out W hSw).1; (try dsimp only at hSw); go_simp; try with_reducible rfl)
      case' restra6 => try simp only [Act.put, List.setIfInBounds_toArray, List.set_cons_zero, List.set_cons_succ]
      refine wpAnyH_take (i := 7) (oi := ⟨some 18, _, _, _, _, _⟩) (v := ?vra7) rfl (by kernel_rfl) (by kernel_rfl) (by kernel_rfl) (fun _ _ _ h => h) (Or.inl ⟨by kernel_rfl, ?hyra7⟩) (by assumption) ?restra7
      case hyra7 => (intro W hSw; (try dsimp only at hSw); go_simp; try with_reducible rfl)
      case' restra7 => try simp only [Act.put, List.setIfInBounds_toArray, List.set_cons_zero, List.set_cons_succ]
      refine wpAnyH_take (i := 8) (oi := ⟨some 19, _, _, _, _, _⟩) (v := ?vra8) rfl (by kernel_rfl) (by kernel_rfl) (by kernel_rfl) (fun _ _ _ h => h) (Or.inl ⟨by kernel_rfl, ?hyra8⟩) (by assumption) ?restra8
      case hyra8 => (intro W hSw; (try dsimp only at hSw); go_simp; try with_reducible rfl)
      case' restra8 => try simp only [Act.put, List.setIfInBounds_toArray, List.set_cons_zero, List.set_cons_succ]
      refine wpAnyH_take (i := 9) (oi := ⟨some 20, _, _, _, _, _⟩) (v := ?vra9) rfl (by kernel_rfl) (by kernel_rfl) (by kernel_rfl) (fun _ _ _ h => h) (Or.inl ⟨by kernel_rfl, ?hyra9⟩) (by assumption) ?restra9
      case hyra9 => (intro W hSw; (try dsimp only at hSw); go_simp; try with_reducible rfl)
      case' restra9 => try simp only [Act.put, List.setIfInBounds_toArray, List.set_cons_zero, List.set_cons_succ]
      refine wpAnyH_take (i := 10) (oi := ⟨some 21, _, _, _, _, _⟩) (v := ?vra10) rfl (by kernel_rfl) (by kernel_rfl) (by kernel_rfl) (fun _ _ _ h => h) (Or.inl ⟨by kernel_rfl, ?hyra10⟩) (by assumption) ?restra10
      case hyra10 => (intro W hSw; (try dsimp only at hSw); go_simp; try with_reducible rfl)
      case' restra10 => try simp only [Act.put, List.setIfInBounds_toArray, List.set_cons_zero, List.set_cons_succ]
      refine wpAnyH_take (i := 11) (oi := ⟨some 22, _, _, _, _, _⟩) (v := ?vra11) rfl (by kernel_rfl) (by kernel_rfl) (by kernel_rfl) (fun _ _ _ h => h) (Or.inl ⟨by kernel_rfl, ?hyra11⟩) (by assumption) ?restra11
      case hyra11 => (intro W hSw; refine Try.execL25 x.p (.tmp 21) ?_ b (off + k * 13 + 1) ?_ (HC.out W hSw).2 <;> rfl)
      case' restra11 => try simp only [Act.put, List.setIfInBounds_toArray, List.set_cons_zero, List.set_cons_succ]
      refine wpAnyH_take (i := 12) (oi := ⟨some 23, _, _, _, _, _⟩) (v := ?vra12) rfl (by kernel_rfl) (by kernel_rfl) (by kernel_rfl) (fun _ _ _ h => h) (Or.inl ⟨by kernel_rfl, ?hyra12⟩) (by assumption) ?restra12
      case hyra12 => (intro W hSw; (try dsimp only at hSw); go_simp; try with_reducible rfl)
      case' restra12 => try simp only [Act.put, List.setIfInBounds_toArray, List.set_cons_zero, List.set_cons_succ]
      refine' wpAnyH_share (fun H f l (act : Value → Act) => ∀ (lv : Value) (WX : World), Own 59 19 encQ WX (w.heap.size + 2) u L → Ed2 w WX u → SlQ1 WX lv x → (fun W : World => Below w.heap.size w W) WX → H f l (act lv) WX) (fun tailra13 => ?mtailra13) ?ttailra13
      case mtailra13 =>
        refine wpAnyH_ready (rs := [1, 13]) (by kernel_rfl) (by simp) ?_
        refine AllReadyH.cons (o := ⟨some 12, _, _, _, _, _⟩) rfl (fun K hK => ?_) ?_
        · skip
          have hcc := fR.2.cell 1
          simp only [List.getElem?_cons_succ, List.getElem?_cons_zero] at hcc
          go_simp
          clear hcc
          refine hK.out _ _ hS0 (fun hHeld => ?_)
          clear hK hHeld K
          try simp only [Act.put, List.setIfInBounds_toArray, List.set_cons_zero, List.set_cons_succ]
          refine wpAnyH_ready (rs := [13]) (by kernel_rfl) (by simp) ?_
          refine AllReadyH.cons (o := ⟨some 24, _, _, _, _, _⟩) rfl (fun K hK => ?_) AllReadyH.nil
          go_simp
          have fL : SlQ1 (wz.alloc (.cells #[.int .i64 x.s, .int .i64 0, .slice none 0 0, .slice none 0 0, .slice none 0 0, .slice none 0 0, .int .i64 x.p.p0.w, .int .i64 x.p.p0.h, .slice x.p.p0.a x.p.p0.v.length x.p.p0.c, .int .i64 x.p.p1.w, .int .i64 x.p.p1.h, .slice x.p.p1.a x.p.p1.v.length x.p.p1.c, .int .i64 x.p.p2.w, .int .i64 x.p.p2.h, .slice x.p.p2.a x.p.p2.v.length x.p.p2.c, .int .i64 x.p.p3.w, .int .i64 x.p.p3.h, .slice x.p.p3.a x.p.p3.v.length x.p.p3.c, .int .u64 0] 59)) (.slice (some ⟨wz.heap.size, 0, none⟩) 1 1) x := ⟨_, _, rfl, rd_one wz x⟩
          replace fO := fO.alloc (.cells #[.int .i64 x.s, .int .i64 0, .slice none 0 0, .slice none 0 0, .slice none 0 0, .slice none 0 0, .int .i64 x.p.p0.w, .int .i64 x.p.p0.h, .slice x.p.p0.a x.p.p0.v.length x.p.p0.c, .int .i64 x.p.p1.w, .int .i64 x.p.p1.h, .slice x.p.p1.a x.p.p1.v.length x.p.p1.c, .int .i64 x.p.p2.w, .int .i64 x.p.p2.h, .slice x.p.p2.a x.p.p2.v.length x.p.p2.c, .int .i64 x.p.p3.w, .int .i64 x.p.p3.h, .slice x.p.p3.a x.p.p3.v.length x.p.p3.c, .int .u64 0] 59)
          replace fR := fR.alloc (.cells #[.int .i64 x.s, .int .i64 0, .slice none 0 0, .slice none 0 0, .slice none 0 0, .slice none 0 0, .int .i64 x.p.p0.w, .int .i64 x.p.p0.h, .slice x.p.p0.a x.p.p0.v.length x.p.p0.c, .int .i64 x.p.p1.w, .int .i64 x.p.p1.h, .slice x.p.p1.a x.p.p1.v.length x.p.p1.c, .int .i64 x.p.p2.w, .int .i64 x.p.p2.h, .slice x.p.p2.a x.p.p2.v.length x.p.p2.c, .int .i64 x.p.p3.w, .int .i64 x.p.p3.h, .slice x.p.p3.a x.p.p3.v.length x.p.p3.c, .int .u64 0] 59)
          have hSWra1 := hS0.alloc hS0.size (.cells #[.int .i64 x.s, .int .i64 0, .slice none 0 0, .slice none 0 0, .slice none 0 0, .slice none 0 0, .int .i64 x.p.p0.w, .int .i64 x.p.p0.h, .slice x.p.p0.a x.p.p0.v.length x.p.p0.c, .int .i64 x.p.p1.w, .int .i64 x.p.p1.h, .slice x.p.p1.a x.p.p1.v.length x.p.p1.c, .int .i64 x.p.p2.w, .int .i64 x.p.p2.h, .slice x.p.p2.a x.p.p2.v.length x.p.p2.c, .int .i64 x.p.p3.w, .int .i64 x.p.p3.h, .slice x.p.p3.a x.p.p3.v.length x.p.p3.c, .int .u64 0] 59)
          refine hK.out _ _ hSWra1 (fun hHeld => ?_)
          clear hK hHeld K
          try clear hS0
          try simp only [Act.put, List.setIfInBounds_toArray, List.set_cons_zero, List.set_cons_succ]
          generalize (wz.alloc (.cells #[.int .i64 x.s, .int .i64 0, .slice none 0 0, .slice none 0 0, .slice none 0 0, .slice none 0 0, .int .i64 x.p.p0.w, .int .i64 x.p.p0.h, .slice x.p.p0.a x.p.p0.v.length x.p.p0.c, .int .i64 x.p.p1.w, .int .i64 x.p.p1.h, .slice x.p.p1.a x.p.p1.v.length x.p.p1.c, .int .i64 x.p.p2.w, .int .i64 x.p.p2.h, .slice x.p.p2.a x.p.p2.v.length x.p.p2.c, .int .i64 x.p.p3.w, .int .i64 x.p.p3.h, .slice x.p.p3.a x.p.p3.v.length x.p.p3.c, .int .u64 0] 59)) = Wra1 at fL fO fR hSWra1 ⊢
          generalize Value.slice (some ⟨wz.heap.size, 0, none⟩) 1 1 = lv at fL ⊢
          exact wpAnyH_cast rfl rfl (tailra13 lv Wra1 fO fR fL hSWra1)
        refine AllReadyH.cons (o := ⟨some 24, _, _, _, _, _⟩) rfl (fun K hK => ?_) AllReadyH.nil
        go_simp
        have fL : SlQ1 (wz.alloc (.cells #[.int .i64 x.s, .int .i64 0, .slice none 0 0, .slice none 0 0, .slice none 0 0, .slice none 0 0, .int .i64 x.p.p0.w, .int .i64 x.p.p0.h, .slice x.p.p0.a x.p.p0.v.length x.p.p0.c, .int .i64 x.p.p1.w, .int .i64 x.p.p1.h, .slice x.p.p1.a x.p.p1.v.length x.p.p1.c, .int .i64 x.p.p2.w, .int .i64 x.p.p2.h, .slice x.p.p2.a x.p.p2.v.length x.p.p2.c, .int .i64 x.p.p3.w, .int .i64 x.p.p3.h, .slice x.p.p3.a x.p.p3.v.length x.p.p3.c, .int .u64 0] 59)) (.slice (some ⟨wz.heap.size, 0, none⟩) 1 1) x := ⟨_, _, rfl, rd_one wz x⟩
        replace fO := fO.alloc (.cells #[.int .i64 x.s, .int .i64 0, .slice none 0 0, .slice none 0 0, .slice none 0 0, .slice none 0 0, .int .i64 x.p.p0.w, .int .i64 x.p.p0.h, .slice x.p.p0.a x.p.p0.v.length x.p.p0.c, .int .i64 x.p.p1.w, .int .i64 x.p.p1.h, .slice x.p.p1.a x.p.p1.v.length x.p.p1.c, .int .i64 x.p.p2.w, .int .i64 x.p.p2.h, .slice x.p.p2.a x.p.p2.v.length x.p.p2.c, .int .i64 x.p.p3.w, .int .i64 x.p.p3.h, .slice x.p.p3.a x.p.p3.v.length x.p.p3.c, .int .u64 0] 59)
        replace fR := fR.alloc (.cells #[.int .i64 x.s, .int .i64 0, .slice none 0 0, .slice none 0 0, .slice none 0 0, .slice none 0 0, .int .i64 x.p.p0.w, .int .i64 x.p.p0.h, .slice x.p.p0.a x.p.p0.v.length x.p.p0.c, .int .i64 x.p.p1.w, .int .i64 x.p.p1.h, .slice x.p.p1.a x.p.p1.v.length x.p.p1.c, .int .i64 x.p.p2.w, .int .i64 x.p.p2.h, .slice x.p.p2.a x.p.p2.v.length x.p.p2.c, .int .i64 x.p.p3.w, .int .i64 x.p.p3.h, .slice x.p.p3.a x.p.p3.v.length x.p.p3.c, .int .u64 0] 59)
        have hSWra2 := hS0.alloc hS0.size (.cells #[.int .i64 x.s, .int .i64 0, .slice none 0 0, .slice none 0 0, .slice none 0 0, .slice none 0 0, .int .i64 x.p.p0.w, .int .i64 x.p.p0.h, .slice x.p.p0.a x.p.p0.v.length x.p.p0.c, .int .i64 x.p.p1.w, .int .i64 x.p.p1.h, .slice x.p.p1.a x.p.p1.v.length x.p.p1.c, .int .i64 x.p.p2.w, .int .i64 x.p.p2.h, .slice x.p.p2.a x.p.p2.v.length x.p.p2.c, .int .i64 x.p.p3.w, .int .i64 x.p.p3.h, .slice x.p.p3.a x.p.p3.v.length x.p.p3.c, .int .u64 0] 59)
        refine hK.out _ _ hSWra2 (fun hHeld => ?_)
        clear hK hHeld K
        try clear hS0
        try simp only [Act.put, List.setIfInBounds_toArray, List.set_cons_zero, List.set_cons_succ]
        generalize (wz.alloc (.cells #[.int .i64 x.s, .int .i64 0, .slice none 0 0, .slice none 0 0, .slice none 0 0, .slice none 0 0, .int .i64 x.p.p0.w, .int .i64 x.p.p0.h, .slice x.p.p0.a x.p.p0.v.length x.p.p0.c, .int .i64 x.p.p1.w, .int .i64 x.p.p1.h, .slice x.p.p1.a x.p.p1.v.length x.p.p1.c, .int .i64 x.p.p2.w, .int .i64 x.p.p2.h, .slice x.p.p2.a x.p.p2.v.length x.p.p2.c, .int .i64 x.p.p3.w, .int .i64 x.p.p3.h, .slice x.p.p3.a x.p.p3.v.length x.p.p3.c, .int .u64 0] 59)) = Wra2 at fL fO fR hSWra2 ⊢
        generalize Value.slice (some ⟨wz.heap.size, 0, none⟩) 1 1 = lv at fL ⊢
        refine wpAnyH_ready (rs := [1]) (by kernel_rfl) (by simp) ?_
        refine AllReadyH.cons (o := ⟨some 12, _, _, _, _, _⟩) rfl (fun K hK => ?_) AllReadyH.nil
        have hcc := fR.2.cell 1
        simp only [List.getElem?_cons_succ, List.getElem?_cons_zero] at hcc
        go_simp
        clear hcc
        refine hK.out _ _ hSWra2 (fun hHeld => ?_)
        clear hK hHeld K
        try simp only [Act.put, List.setIfInBounds_toArray, List.set_cons_zero, List.set_cons_succ]
        exact wpAnyH_cast (by kernel_rfl) (by kernel_rfl) (tailra13 lv Wra2 fO fR fL hSWra2)
      case ttailra13 =>
        try clear fO
        try clear fR
        try clear hS0
        intro lv Wra3 fO fR fL hSWra3
        refine wpAnyH_ready (rs := [14]) (by kernel_rfl) (by simp) ?_
        refine AllReadyH.cons (o := ⟨some 25, _, _, _, _, _⟩) rfl (fun K hK => ?_) AllReadyH.nil
        refine Ed.app fO fL rfl _ _ rfl rfl rfl hlen fR.lt (fun v2 Wra4 fO2 hb2 => ?_)
        replace fR := fR.below hb2
        have hSWra4 := hSWra3.trans (hb2.mono (by omega))
        clear fO fL hb2 hSWra3
        refine hK.out _ _ hSWra4 (fun hHeld => ?_)
        clear hK hHeld K
        try simp only [Act.put, List.setIfInBounds_toArray, List.set_cons_zero, List.set_cons_succ]
        refine wpAnyH_take (i := 15) (oi := ⟨some 26, _, _, _, _, _⟩) (v := ?vra14) rfl (by kernel_rfl) (by kernel_rfl) (by kernel_rfl) (fun _ _ _ h => h) (Or.inl ⟨by kernel_rfl, ?hyra14⟩) (by assumption) ?restra14
        case hyra14 => (intro W hSw; (try dsimp only at hSw); go_simp; try with_reducible rfl)
        case' restra14 => try simp only [Act.put, List.setIfInBounds_toArray, List.set_cons_zero, List.set_cons_succ]
        refine wpAnyH_ready (rs := [16]) (by kernel_rfl) (by simp) ?_
        refine AllReadyH.cons (o := ⟨none, _, _, _, _, _⟩) rfl (fun K hK => ?_) AllReadyH.nil
        obtain ⟨A2, n2, c2, rfl⟩ : ∃ A n c, v2 = Value.slice A n c := by obtain ⟨A, c, e⟩ := Own.slice fO2; exact ⟨A, _, c, e⟩
        have hcc := fR.2.cell 1
        simp only [List.getElem?_cons_succ, List.getElem?_cons_zero] at hcc
        have hff := fR.2.frozen 1
        obtain ⟨fR3, fO3, hS3⟩ := fR.store fO2 hSWra4
        have FR3 := Lib.hid fR3
        have FO3 := Lib.hid fO3
        clear fR3 fO3 fR fO2 hSWra4
        go_simp
        clear hcc hff
        refine hK.out _ _ hS3 (fun hHeld => ?_)
        clear hK hHeld K
        try simp only [Act.put, List.setIfInBounds_toArray, List.set_cons_zero, List.set_cons_succ]
        refine wpAnyH_done (by kernel_rfl) ?_ _
        go_wp2_with fail
        go_roundw
        case rel => exact ⟨k + 1, .slice A2 n2 c2, by omega, by go_num, FR3.out, by rw [HT.out]; exact FO3.out, hS3⟩
        case measure => simp [intOf]; omega
    · obtain rfl : k = xs.length := by omega
      rw [List.take_length] at hown
      have hu1 : u.oneCell' = true := by obtain ⟨_, _, e⟩ := Own.slice hown; rw [e]; rfl
      have hro := hed.1
      have hrg : wr.rangeAt (w.heap.size + 1) 0 [.int .i64 0, u, .slice none 0 0] := hed.2.range
      have hsp := slP_own (w := wr.setRow w.heap.size #[.int .i64 0, u, .slice none 0 0]) (by
        obtain ⟨h1, h2⟩ := hown
        refine ⟨h1, ?_⟩
        rcases h2 with h2 | ⟨g, cap, cur, hv, hg, hh, r⟩
        · exact .inl h2
        · exact .inr ⟨g, cap, cur, hv, hg, by rw [setRow_other _ _ _ _ (by omega)]; exact hh, r⟩) hl (fun x hx => ⟨(HP.out x hx).1, (HP.out x hx).2.below (below_setRow hbw (Nat.le_refl _) _)⟩)
      have HSP := Lib.hid hsp
      have HBW := Lib.hid hbw
      have HRN := Lib.hid (hro.setSame [.int .i64 0, u, .slice none 0 0])
      clear hown hed hsp hbw
      go_wp2_with first
        | (refine wpList_load_mid rfl 44 _ rfl (w.heap.size + 1) 0 rfl [.int .i64 0, u, .slice none 0 0] _ hrg Try.underlying44 rfl Try.size44 ?_)
        | (refine wpList_storeRow 44 [.int .i64 0, u, .slice none 0 0] rfl _ _ rfl w.heap.size rfl rfl hro Try.size44 rfl (by intro z hz; simp only [List.mem_cons, List.not_mem_nil, or_false] at hz; rcases hz with h | h | h <;> rw [h] <;> first | exact hu1 | rfl) ?_)
      refine bodyPost_ret (v := aggE u) (Try.res18 _ w.heap.size u _ rfl HRN.out.range) rfl ?_
      exact ⟨u, rfl, HSP.out, below_setRow HBW.out (Nat.le_refl _) _⟩
end Go.Proofs
