/- The law Exact, walked. -/
import Derived.Test.YtnckglojbhlekaaW5
set_option linter.unusedVariables false
set_option linter.unusedSimpArgs false
namespace Go.Proofs
open Go.RowKit Go.Proofs.Mp

theorem bxE_why {a b : P4} (h : bxE a b ≠ 0) : colE a ≠ 0 ∨ colE b ≠ 0 ∨ a.p0.w ≠ b.p0.w ∨ a.p0.h ≠ b.p0.h := by
  by_cases h1 : colE a = 0
  · by_cases h2 : colE b = 0
    · by_cases h3 : a.p0.w = b.p0.w
      · by_cases h4 : a.p0.h = b.p0.h
        · exact absurd (bxE_z h1 h2 ⟨h3, h4⟩) h
        · exact .inr (.inr (.inr h4))
      · exact .inr (.inr (.inl h3))
    · exact .inr (.inl h2)
  · exact .inl h1
theorem cnt_take_succ (l : List Bx) {k : Nat} (h : k < l.length) (X Y : Int) : cnt (l.take (k + 1)) X Y = cnt (l.take k) X Y + if coverB l[k]! X Y = true then 1 else 0 := by
  rw [List.take_succ_eq_append_getElem h, cnt_app, getElem!_pos l k h, cnt_cons, cnt_nil, Nat.zero_add]
theorem cnt_le (l : List Bx) (X Y : Int) : cnt l X Y ≤ l.length := List.countP_le_length
theorem Bx.cells {w wr : World} {v : Value} {l : List Bx} (h : SlX w v l) (hb : Below w.heap.size w wr) {k : Nat} (hk : k < l.length) :
    ∃ b off c, v = .slice (some ⟨b, off, none⟩) l.length c ∧ b < w.heap.size ∧ (wr.cell? ⟨b, off + k * 4, none⟩ = some (.int .i64 l[k]!.x0) ∧ wr.cell? ⟨b, off + k * 4 + 1, none⟩ = some (.int .i64 l[k]!.y0) ∧ wr.cell? ⟨b, off + k * 4 + 2, none⟩ = some (.int .i64 l[k]!.x1) ∧ wr.cell? ⟨b, off + k * 4 + 3, none⟩ = some (.int .i64 l[k]!.y1)) := by
  obtain ⟨A, c, rfl, hR⟩ := h
  obtain ⟨b, off, rfl, hlt, hc⟩ := Mp.Rd.get hR hb hk
  exact ⟨b, off, c, rfl, hlt, by simpa using hc k hk 0 _ rfl, hc k hk 1 _ rfl, hc k hk 2 _ rfl, hc k hk 3 _ rfl⟩
theorem SlX.addr {w : World} {v : Value} {l : List Bx} (h : SlX w v l) : ∃ A c, v = .slice A l.length c := by obtain ⟨A, c, rfl, _⟩ := h; exact ⟨A, c, rfl⟩
theorem mem_getB {l : List Bx} {k : Nat} (h : k < l.length) : l[k]! ∈ l := by rw [getElem!_pos l k h]; exact List.getElem_mem h
set_option maxRecDepth 100000 in
set_option maxHeartbeats 20000000 in
theorem law_exact (x y : P4) (w : World) (hfx : Few4 x 9223372036854775807) (hfy : Few4 y 9223372036854775807) (hRx : Rd4 w x) (hRy : Rd4 w y) : Calls Try.prog 5 #[agg4 x, agg4 y] w (RetV w (.bool true)) := by
  have k0 : Below w.heap.size w ((w.alloc (.cells #[.int .i64 x.p0.w, .int .i64 x.p0.h, .slice x.p0.a x.p0.v.length x.p0.c, .int .i64 x.p1.w, .int .i64 x.p1.h, .slice x.p1.a x.p1.v.length x.p1.c, .int .i64 x.p2.w, .int .i64 x.p2.h, .slice x.p2.a x.p2.v.length x.p2.c, .int .i64 x.p3.w, .int .i64 x.p3.h, .slice x.p3.a x.p3.v.length x.p3.c] 25)).alloc (.cells #[.int .i64 y.p0.w, .int .i64 y.p0.h, .slice y.p0.a y.p0.v.length y.p0.c, .int .i64 y.p1.w, .int .i64 y.p1.h, .slice y.p1.a y.p1.v.length y.p1.c, .int .i64 y.p2.w, .int .i64 y.p2.h, .slice y.p2.a y.p2.v.length y.p2.c, .int .i64 y.p3.w, .int .i64 y.p3.h, .slice y.p3.a y.p3.v.length y.p3.c] 25)) := (bw1 _ _).alloc (by simp) _
  have Rx : Mp.Row ((w.alloc (.cells #[.int .i64 x.p0.w, .int .i64 x.p0.h, .slice x.p0.a x.p0.v.length x.p0.c, .int .i64 x.p1.w, .int .i64 x.p1.h, .slice x.p1.a x.p1.v.length x.p1.c, .int .i64 x.p2.w, .int .i64 x.p2.h, .slice x.p2.a x.p2.v.length x.p2.c, .int .i64 x.p3.w, .int .i64 x.p3.h, .slice x.p3.a x.p3.v.length x.p3.c] 25)).alloc (.cells #[.int .i64 y.p0.w, .int .i64 y.p0.h, .slice y.p0.a y.p0.v.length y.p0.c, .int .i64 y.p1.w, .int .i64 y.p1.h, .slice y.p1.a y.p1.v.length y.p1.c, .int .i64 y.p2.w, .int .i64 y.p2.h, .slice y.p2.a y.p2.v.length y.p2.c, .int .i64 y.p3.w, .int .i64 y.p3.h, .slice y.p3.a y.p3.v.length y.p3.c] 25)) w.heap.size 25 (cells4 x) := (Row.newAt rfl rfl).alloc _
  have hRx0 := hRx.below k0
  have Ry : Mp.Row ((w.alloc (.cells #[.int .i64 x.p0.w, .int .i64 x.p0.h, .slice x.p0.a x.p0.v.length x.p0.c, .int .i64 x.p1.w, .int .i64 x.p1.h, .slice x.p1.a x.p1.v.length x.p1.c, .int .i64 x.p2.w, .int .i64 x.p2.h, .slice x.p2.a x.p2.v.length x.p2.c, .int .i64 x.p3.w, .int .i64 x.p3.h, .slice x.p3.a x.p3.v.length x.p3.c] 25)).alloc (.cells #[.int .i64 y.p0.w, .int .i64 y.p0.h, .slice y.p0.a y.p0.v.length y.p0.c, .int .i64 y.p1.w, .int .i64 y.p1.h, .slice y.p1.a y.p1.v.length y.p1.c, .int .i64 y.p2.w, .int .i64 y.p2.h, .slice y.p2.a y.p2.v.length y.p2.c, .int .i64 y.p3.w, .int .i64 y.p3.h, .slice y.p3.a y.p3.v.length y.p3.c] 25)) (w.heap.size + 1) 25 (cells4 y) := Row.newAt (by simp) rfl
  have hRy0 := hRy.below k0
  have hsz : ((w.alloc (.cells #[.int .i64 x.p0.w, .int .i64 x.p0.h, .slice x.p0.a x.p0.v.length x.p0.c, .int .i64 x.p1.w, .int .i64 x.p1.h, .slice x.p1.a x.p1.v.length x.p1.c, .int .i64 x.p2.w, .int .i64 x.p2.h, .slice x.p2.a x.p2.v.length x.p2.c, .int .i64 x.p3.w, .int .i64 x.p3.h, .slice x.p3.a x.p3.v.length x.p3.c] 25)).alloc (.cells #[.int .i64 y.p0.w, .int .i64 y.p0.h, .slice y.p0.a y.p0.v.length y.p0.c, .int .i64 y.p1.w, .int .i64 y.p1.h, .slice y.p1.a y.p1.v.length y.p1.c, .int .i64 y.p2.w, .int .i64 y.p2.h, .slice y.p2.a y.p2.v.length y.p2.c, .int .i64 y.p3.w, .int .i64 y.p3.h, .slice y.p3.a y.p3.v.length y.p3.c] 25)).heap.size = w.heap.size + 2 := by simp
  unfold agg4
  go_enter Try.func5, Try.ntmps5
  go_wp2_with first
    | (refine Try.load25 x rfl _ rfl w.heap.size 0 rfl Rx.range ?_)
    | (refine Try.load25 y rfl _ rfl (w.heap.size + 1) 0 rfl Ry.range ?_)
    | (refine Try.load25g x _ rfl w.heap.size 0 rfl Rx.range (by rfl) ?_)
    | (refine Try.load25g y _ rfl (w.heap.size + 1) 0 rfl Ry.range (by rfl) ?_)
  refine (light_any x _ hfx).mono ?_
  rintro e w1 ⟨rfl, hb1⟩
  have k1 := k0.trans (hb1.mono k0.size)
  replace Rx := Rx.below hb1 (by have := k0.size; first | exact Rx.lt | omega)
  replace hRx0 := hRx0.below hb1
  replace Ry := Ry.below hb1 (by have := k0.size; first | exact Ry.lt | omega)
  replace hRy0 := hRy0.below hb1
  clear k0 hb1
  obtain ⟨px, hpx⟩ : ∃ p, lightB x = p := ⟨_, rfl⟩
  rw [hpx]
  have HPx := Lib.hid hpx
  clear hpx
  cases px
  · go_wp2_with first
      | (refine Try.load25 x rfl _ rfl w.heap.size 0 rfl Rx.range ?_)
      | (refine Try.load25 y rfl _ rfl (w.heap.size + 1) 0 rfl Ry.range ?_)
      | (refine Try.load25g x _ rfl w.heap.size 0 rfl Rx.range (by rfl) ?_)
      | (refine Try.load25g y _ rfl (w.heap.size + 1) 0 rfl Ry.range (by rfl) ?_)
    refine (awake_any _).mono ?_
    rintro e w102 ⟨rfl, hb102⟩
    have k102 := k1.trans (hb102.mono k1.size)
    replace Rx := Rx.below hb102 (by have := k1.size; first | exact Rx.lt | omega)
    replace hRx0 := hRx0.below hb102
    replace Ry := Ry.below hb102 (by have := k1.size; first | exact Ry.lt | omega)
    replace hRy0 := hRy0.below hb102
    clear k1 hb102
    go_wp2
    go_ret
    exact RetV.bool rfl k102
  have hFx := light_few HPx.out
  go_wp2_with first
    | (refine Try.load25 x rfl _ rfl w.heap.size 0 rfl Rx.range ?_)
    | (refine Try.load25 y rfl _ rfl (w.heap.size + 1) 0 rfl Ry.range ?_)
    | (refine Try.load25g x _ rfl w.heap.size 0 rfl Rx.range (by rfl) ?_)
    | (refine Try.load25g y _ rfl (w.heap.size + 1) 0 rfl Ry.range (by rfl) ?_)
  refine (light_any y _ hfy).mono ?_
  rintro e w2 ⟨rfl, hb2⟩
  have k2 := k1.trans (hb2.mono k1.size)
  replace Rx := Rx.below hb2 (by have := k1.size; first | exact Rx.lt | omega)
  replace hRx0 := hRx0.below hb2
  replace Ry := Ry.below hb2 (by have := k1.size; first | exact Ry.lt | omega)
  replace hRy0 := hRy0.below hb2
  clear k1 hb2
  obtain ⟨py, hpy⟩ : ∃ p, lightB y = p := ⟨_, rfl⟩
  rw [hpy]
  have HPy := Lib.hid hpy
  clear hpy
  cases py
  · go_wp2_with first
      | (refine Try.load25 x rfl _ rfl w.heap.size 0 rfl Rx.range ?_)
      | (refine Try.load25 y rfl _ rfl (w.heap.size + 1) 0 rfl Ry.range ?_)
      | (refine Try.load25g x _ rfl w.heap.size 0 rfl Rx.range (by rfl) ?_)
      | (refine Try.load25g y _ rfl (w.heap.size + 1) 0 rfl Ry.range (by rfl) ?_)
    refine (awake_any _).mono ?_
    rintro e w103 ⟨rfl, hb103⟩
    have k103 := k2.trans (hb103.mono k2.size)
    replace Rx := Rx.below hb103 (by have := k2.size; first | exact Rx.lt | omega)
    replace hRx0 := hRx0.below hb103
    replace Ry := Ry.below hb103 (by have := k2.size; first | exact Ry.lt | omega)
    replace hRy0 := hRy0.below hb103
    clear k2 hb103
    go_wp2
    go_ret
    exact RetV.bool rfl k103
  have hFy := light_few HPy.out
  go_wp2_with first
    | (refine Try.load25 x rfl _ rfl w.heap.size 0 rfl Rx.range ?_)
    | (refine Try.load25 y rfl _ rfl (w.heap.size + 1) 0 rfl Ry.range ?_)
    | (refine Try.load25g x _ rfl w.heap.size 0 rfl Rx.range (by rfl) ?_)
    | (refine Try.load25g y _ rfl (w.heap.size + 1) 0 rfl Ry.range (by rfl) ?_)
  refine (proof_boxes x y _ hFx hFy hRx0 hRy0).mono ?_
  rintro e w3 ⟨v1, rfl, hv1, hb3⟩
  have k3 := k2.trans (hb3.mono k2.size)
  replace Rx := Rx.below hb3 (by have := k2.size; first | exact Rx.lt | omega)
  replace hRx0 := hRx0.below hb3
  replace Ry := Ry.below hb3 (by have := k2.size; first | exact Ry.lt | omega)
  replace hRy0 := hRy0.below hb3
  clear k2 hb3
  go_wp2_with first
    | (refine Try.load25 x rfl _ rfl w.heap.size 0 rfl Rx.range ?_)
    | (refine Try.load25 y rfl _ rfl (w.heap.size + 1) 0 rfl Ry.range ?_)
    | (refine Try.load25g x _ rfl w.heap.size 0 rfl Rx.range (by rfl) ?_)
    | (refine Try.load25g y _ rfl (w.heap.size + 1) 0 rfl Ry.range (by rfl) ?_)
  refine (colors_any x _ (fun j => Nat.le_trans (hFx j) (by omega)) hRx0).mono ?_
  rintro e w4 ⟨v2, rfl, hv2, hb4⟩
  have k4 := k3.trans (hb4.mono k3.size)
  replace Rx := Rx.below hb4 (by have := k3.size; first | exact Rx.lt | omega)
  replace hRx0 := hRx0.below hb4
  replace Ry := Ry.below hb4 (by have := k3.size; first | exact Ry.lt | omega)
  replace hRy0 := hRy0.below hb4
  replace hv1 := hv1.below hb4
  clear k3 hb4
  go_wp2_with first
    | (refine Try.load25 x rfl _ rfl w.heap.size 0 rfl Rx.range ?_)
    | (refine Try.load25 y rfl _ rfl (w.heap.size + 1) 0 rfl Ry.range ?_)
    | (refine Try.load25g x _ rfl w.heap.size 0 rfl Rx.range (by rfl) ?_)
    | (refine Try.load25g y _ rfl (w.heap.size + 1) 0 rfl Ry.range (by rfl) ?_)
  refine (colors_any y _ (fun j => Nat.le_trans (hFy j) (by omega)) hRy0).mono ?_
  rintro e w5 ⟨v3, rfl, hv3, hb5⟩
  have k5 := k4.trans (hb5.mono k4.size)
  replace Rx := Rx.below hb5 (by have := k4.size; first | exact Rx.lt | omega)
  replace hRx0 := hRx0.below hb5
  replace Ry := Ry.below hb5 (by have := k4.size; first | exact Ry.lt | omega)
  replace hRy0 := hRy0.below hb5
  replace hv1 := hv1.below hb5
  replace hv2 := hv2.below hb5
  clear k4 hb5
  have hl1 := bxR_len x y
  have hgx0 := Rx.cell 0
  have hgx1 := Rx.cell 1
  have hgy0 := Ry.cell 0
  have hgy1 := Ry.cell 1
  simp only [cells4, List.getElem?_cons_succ, List.getElem?_cons_zero] at hgx0 hgx1 hgy0 hgy1
  have hltx := Rx.lt
  have hlty := Ry.lt
  have HG := Lib.hid (fun (W : World) (hb : Below w5.heap.size w5 W) => And.intro ((hb.cell (p := ⟨w.heap.size, 0, none⟩) hltx).trans hgx0) (And.intro ((hb.cell (p := ⟨w.heap.size, 1, none⟩) hltx).trans hgx1) (And.intro ((hb.cell (p := ⟨w.heap.size + 1, 0, none⟩) hlty).trans hgy0) ((hb.cell (p := ⟨w.heap.size + 1, 1, none⟩) hlty).trans hgy1))))
  clear hgx0 hgx1 hgy0 hgy1 Rx Ry hRx0 hRy0
  by_cases he : bxE x y = 0
  rotate_left
  · have e1 : (bxE x y != 0) = true := by simp [he]
    have hwhy := bxE_why he
    rw [show bxR x y = [] from by unfold bxR; rw [if_neg he]] at hv1
    obtain ⟨A1, c1, rfl, _⟩ := hv1
    simp only [List.length_nil]
    clear he hl1 hv2 hv3
    generalize bxE x y = r1 at *
    generalize colE x = r2 at *
    generalize colE y = r3 at *
    go_wp2_with fail
    refine (awake_any _).mono ?_
    rintro e w201 ⟨rfl, hb201⟩
    have k201 := k5.trans (hb201.mono k5.size)
    clear k5
    obtain ⟨gx0, gx1, gy0, gy1⟩ := HG.out w201 hb201
    by_cases h2 : r2 = 0
    · by_cases h3 : r3 = 0
      · by_cases h4 : x.p0.w = y.p0.w
        · have h5 : x.p0.h ≠ y.p0.h := by
            rcases hwhy with h | h | h | h
            · exact absurd h2 h
            · exact absurd h3 h
            · exact absurd h4 h
            · exact h
          have b2 : (r2 != 0) = false := by simp [h2]
          have b3 : (r3 != 0) = false := by simp [h3]
          have b4 : (x.p0.w != y.p0.w) = false := by simp [h4]
          have b5 : (x.p0.h != y.p0.h) = true := by simp [h5]
          clear hwhy h2 h3 h4 h5
          go_wp2
          go_ret
          exact RetV.bool rfl k201
        · have b2 : (r2 != 0) = false := by simp [h2]
          have b3 : (r3 != 0) = false := by simp [h3]
          have b4 : (x.p0.w != y.p0.w) = true := by simp [h4]
          clear hwhy h2 h3 h4
          go_wp2
          go_ret
          exact RetV.bool rfl k201
      · have b2 : (r2 != 0) = false := by simp [h2]
        have b3 : (r3 != 0) = true := by simp [h3]
        clear hwhy h2 h3
        go_wp2
        go_ret
        exact RetV.bool rfl k201
    · have b2 : (r2 != 0) = true := by simp [h2]
      clear hwhy h2
      go_wp2
      go_ret
      exact RetV.bool rfl k201
  obtain ⟨Wd, Ht, e1, e2, hW, hH, hWp, a0, b0, f1, f2, hla, hlb, hin, hcnt⟩ := bx_exact he
  rw [bxR_z he] at hv1 hl1
  rw [show colR x = colL x from by unfold colR; rw [if_pos a0]] at hv2
  rw [show colR y = colL y from by unfold colR; rw [if_pos b0]] at hv3
  rw [he, a0, b0]
  have HIN := Lib.hid hin
  have HCNT := Lib.hid hcnt
  rw [e1, e2, f1, f2] at HG
  clear hin hcnt he a0 b0 e1 e2 f1 f2
  generalize bxL x y = l1 at *
  generalize colL x = ca at *
  generalize colL y = cb at *
  obtain ⟨A1, c1, e1⟩ := hv1.addr
  have hv2' := hv2
  have hv3' := hv3
  obtain ⟨A2, c2, e2, _, _⟩ := hv2'
  obtain ⟨A3, c3, e3, _, _⟩ := hv3'
  subst e1 e2 e3
  have HLA := Lib.hid hla
  have HLB := Lib.hid hlb
  rw [hla, hlb]
  have hN : Ht * Wd ≤ 65536 := by
    have := Nat.mul_le_mul hH hW
    omega
  have hmul : IntKind.i64.wrap ((Wd : Int) * (Ht : Int)) = ((Ht * Wd : Nat) : Int) := by rw [Int.mul_comm, ← Int.natCast_mul]; exact IntWalk.i64_in _ (by omega)
  obtain ⟨N, hNN⟩ : ∃ N, Ht * Wd = N := ⟨_, rfl⟩
  rw [hNN] at hmul hN ⊢
  have HNN := Lib.hid hNN
  have hnn : ((N : Int) != (N : Int)) = false := by simp
  obtain ⟨gx0, gx1, _, _⟩ := HG.out _ (Below.refl _ _)
  clear hla hlb hNN
  go_wp2_with fail
  clear gx0 gx1 hnn hmul
  have HG0 := Lib.hid (fun (W : World) (hb : Below w5.heap.size w5 W) => (HG.out W hb).1)
  have HG1 := Lib.hid (fun (W : World) (hb : Below w5.heap.size w5 W) => (HG.out W hb).2.1)
  have HV1 := Lib.hid hv1
  have HV2 := Lib.hid hv2
  have HV3 := Lib.hid hv3
  clear HG hv1 hv2 hv3
  go_loopw [11] (fun i wr => ∃ k : Nat, k ≤ N ∧ i = .int .i64 k ∧ Below w5.heap.size w5 wr) (fun i _ => N - (intOf i).toNat)
  case atStart => exact ⟨0, Nat.zero_le _, rfl, Below.refl _ _⟩
  case round =>
    obtain ⟨i, hi, rfl, hbw⟩ := hrel
    by_cases hlt : i < N
    · have hd : decide (i < N) = true := decide_eq_true hlt
      obtain ⟨X, hX⟩ : ∃ X : Nat, i % Wd = X := ⟨_, rfl⟩
      obtain ⟨Y, hY⟩ : ∃ Y : Nat, i / Wd = Y := ⟨_, rfl⟩
      have hXY : Y * Wd + X = i := by rw [← hX, ← hY]; exact Nat.div_add_mod' i Wd
      have hXW : X < Wd := by rw [← hX]; exact Nat.mod_lt _ hWp
      have hYH : Y < Ht := by rw [← hY]; exact Nat.div_lt_of_lt_mul (by rw [Nat.mul_comm, HNN.out]; exact hlt)
      have hrem : (i : Int).tmod (Wd : Int) = (X : Int) := by rw [← hX]; exact Int.ofNat_tmod i Wd
      have hquo : (i : Int).tdiv (Wd : Int) = (Y : Int) := by rw [← hY]; exact Int.ofNat_tdiv i Wd
      have hci : cnt l1 X Y = if ca[i]! ≠ cb[i]! then 1 else 0 := by
        rw [HCNT.out]
        simp only [Int.toNat_natCast, hXY]
        by_cases h : ca[i]! ≠ cb[i]!
        · rw [if_pos h, if_pos ⟨by omega, by omega, by omega, by omega, h⟩]
        · rw [if_neg h, if_neg (fun g => h g.2.2.2.2)]
      have HREM := Lib.hid hrem
      have HQUO := Lib.hid hquo
      have HCI := Lib.hid hci
      clear hrem hquo hci hX hY hXY
      go_wp2_with fail
      generalize wr = wa at *
      have hS0 := hbw.size
      go_loopw [12, 13] (fun n j wr => ∃ k : Nat, k ≤ l1.length ∧ j = .int .i64 k ∧ n = .int .i64 (cnt (l1.take k) X Y : Nat) ∧ Below wa.heap.size wa wr) (fun _ j _ => l1.length - (intOf j).toNat)
      case atStart => exact ⟨0, Nat.zero_le _, rfl, rfl, Below.refl _ _⟩
      case round =>
        obtain ⟨k, hk, rfl, rfl, hbi⟩ := hrel
        have kk := hbw.trans (hbi.mono hbw.size)
        by_cases hlk : k < l1.length
        · have hdk : decide (k < l1.length) = true := decide_eq_true hlk
          have HSU := Lib.hid (cnt_take_succ l1 hlk X Y)
          obtain ⟨b, off, c, hA, hb, _⟩ := Bx.cells HV1.out (Below.refl _ _) hlk
          injection hA with hA hx1 hx2
          subst hA
          clear hx1 hx2
          obtain ⟨q, hq⟩ : ∃ q, l1[k]! = q := ⟨_, rfl⟩
          have HB := Lib.hid (fun (W : World) (hW : Below wr.heap.size wr W) => (by
            obtain ⟨b', off', c', e, _, h⟩ := Bx.cells HV1.out (kk.trans (hW.mono kk.size)) hlk
            injection e with e _ _
            injection e with e
            injection e with e4 e5
            subst e4 e5
            rw [hq] at h
            exact h : W.cell? ⟨b, off + k * 4, none⟩ = some (.int .i64 q.x0) ∧ W.cell? ⟨b, off + k * 4 + 1, none⟩ = some (.int .i64 q.y0) ∧ W.cell? ⟨b, off + k * 4 + 2, none⟩ = some (.int .i64 q.x1) ∧ W.cell? ⟨b, off + k * 4 + 3, none⟩ = some (.int .i64 q.y1)))
          rw [hq] at HSU
          clear hq
          have HGW := Lib.hid (fun (W : World) (hW : Below wr.heap.size wr W) => HG0.out W (kk.trans (hW.mono kk.size)))
          have hcl := cnt_le (l1.take k) X Y
          have hcl2 : (l1.take k).length ≤ k := List.length_take_le _ _
          obtain ⟨m, hm⟩ : ∃ m, cnt (l1.take k) X Y = m := ⟨_, rfl⟩
          rw [hm] at HSU hcl ⊢
          have hm6 : m ≤ 65536 := by omega
          clear hm hcl hcl2
          have hW0 : ((Wd : Int) == 0) = false := by rw [beq_eq_false_iff_ne]; omega
          have hW1 : ¬ (Wd : Int) = 0 := by omega
          have hW2 : ¬ Wd = 0 := by omega
          have hqw : IntKind.i64.wrap (Y : Int) = (Y : Int) := IntWalk.i64_in _ (by omega)
          have hrem := HREM.out
          have hquo := HQUO.out
          have hS1 : (fun W : World => Below wr.heap.size wr W) wr.drew := (Below.refl _ _).drew

          by_cases h0 : q.x0 ≤ (X : Int)
          rotate_left
          · as_aux_lemma =>
              have d0 : decide (q.x0 ≤ (X : Int)) = false := decide_eq_false h0
              have HCV : Hid (coverB q X Y = false) := Lib.hid (coverB_no.2 (by omega))
              clear h0
              go_wp2_with fail
              refine wp_region_held_drew (S := fun W : World => Below wr.heap.size wr W) (by kernel_rfl) hS1 (fun hHeld => ?_)
              clear hHeld
              generalize wr.drew = wzp at *
              refine wpAnyH_take (i := 0) (oi := ⟨some 111, _, _, _, _, _⟩) (v := ?vp1) rfl (by kernel_rfl) (by kernel_rfl) (by kernel_rfl) (fun _ _ _ h => h) (Or.inl ⟨by kernel_rfl, ?hyp1⟩) (by assumption) ?restp1
              case hyp1 => (intro W hSw; (try dsimp only at hSw); go_simp; try with_reducible rfl)
              case' restp1 => try simp only [Act.put, List.setIfInBounds_toArray, List.set_cons_zero, List.set_cons_succ]
              refine wpAnyH_take (i := 1) (oi := ⟨some 112, _, _, _, _, _⟩) (v := ?vp2) rfl (by kernel_rfl) (by kernel_rfl) (by kernel_rfl) (fun _ _ _ h => h) (Or.inl ⟨by kernel_rfl, ?hyp2⟩) (by assumption) ?restp2
              case hyp2 => (intro W hSw; (try dsimp only at hSw); go_simp; try with_reducible rfl)
              case' restp2 => try simp only [Act.put, List.setIfInBounds_toArray, List.set_cons_zero, List.set_cons_succ]
              refine wpAnyH_take (i := 2) (oi := ⟨some 113, _, _, _, _, _⟩) (v := ?vp3) rfl (by kernel_rfl) (by kernel_rfl) (by kernel_rfl) (fun _ _ _ h => h) (Or.inl ⟨by kernel_rfl, ?hyp3⟩) (by assumption) ?restp3
              case hyp3 => (intro W hSw; (try dsimp only at hSw); go_simp; try with_reducible rfl)
              case' restp3 => try simp only [Act.put, List.setIfInBounds_toArray, List.set_cons_zero, List.set_cons_succ]
              refine wpAnyH_take (i := 3) (oi := ⟨some 114, _, _, _, _, _⟩) (v := ?vp4) rfl (by kernel_rfl) (by kernel_rfl) (by kernel_rfl) (fun _ _ _ h => h) (Or.inl ⟨by kernel_rfl, ?hyp4⟩) (by assumption) ?restp4
              case hyp4 => (intro W hSw; (try dsimp only at hSw); go_simp; try with_reducible rfl)
              case' restp4 => try simp only [Act.put, List.setIfInBounds_toArray, List.set_cons_zero, List.set_cons_succ]
              refine wpAnyH_take (i := 4) (oi := ⟨some 115, _, _, _, _, _⟩) (v := ?vp5) rfl (by kernel_rfl) (by kernel_rfl) (by kernel_rfl) (fun _ _ _ h => h) (Or.inl ⟨by kernel_rfl, ?hyp5⟩) (by assumption) ?restp5
              case hyp5 => (intro W hSw; obtain ⟨g0, g1, g2, g3⟩ := HB.out W hSw; (try dsimp only at hSw); go_simp; try with_reducible rfl)
              case' restp5 => try simp only [Act.put, List.setIfInBounds_toArray, List.set_cons_zero, List.set_cons_succ]
              refine wpAnyH_take (i := 5) (oi := ⟨some 116, _, _, _, _, _⟩) (v := ?vp6) rfl (by kernel_rfl) (by kernel_rfl) (by kernel_rfl) (fun _ _ _ h => h) (Or.inl ⟨by kernel_rfl, ?hyp6⟩) (by assumption) ?restp6
              case hyp6 => (intro W hSw; (try dsimp only at hSw); go_simp; try with_reducible rfl)
              case' restp6 => try simp only [Act.put, List.setIfInBounds_toArray, List.set_cons_zero, List.set_cons_succ]
              refine wpAnyH_take (i := 6) (oi := ⟨some 117, _, _, _, _, _⟩) (v := ?vp7) rfl (by kernel_rfl) (by kernel_rfl) (by kernel_rfl) (fun _ _ _ h => h) (Or.inl ⟨by kernel_rfl, ?hyp7⟩) (by assumption) ?restp7
              case hyp7 => (intro W hSw; (try dsimp only at hSw); go_simp; try with_reducible rfl)
              case' restp7 => try simp only [Act.put, List.setIfInBounds_toArray, List.set_cons_zero, List.set_cons_succ]
              refine wpAnyH_take (i := 7) (oi := ⟨some 118, _, _, _, _, _⟩) (v := ?vp8) rfl (by kernel_rfl) (by kernel_rfl) (by kernel_rfl) (fun _ _ _ h => h) (Or.inl ⟨by kernel_rfl, ?hyp8⟩) (by assumption) ?restp8
              case hyp8 => (intro W hSw; (try dsimp only at hSw); go_simp; try with_reducible rfl)
              case' restp8 => try simp only [Act.put, List.setIfInBounds_toArray, List.set_cons_zero, List.set_cons_succ]
              refine wpAnyH_take (i := 8) (oi := ⟨some 119, _, _, _, _, _⟩) (v := ?vp9) rfl (by kernel_rfl) (by kernel_rfl) (by kernel_rfl) (fun _ _ _ h => h) (Or.inl ⟨by kernel_rfl, ?hyp9⟩) (by assumption) ?restp9
              case hyp9 => (intro W hSw; have gw := HGW.out W hSw; (try dsimp only at hSw); go_simp; try with_reducible rfl)
              case' restp9 => try simp only [Act.put, List.setIfInBounds_toArray, List.set_cons_zero, List.set_cons_succ]
              refine wpAnyH_take (i := 9) (oi := ⟨some 120, _, _, _, _, _⟩) (v := ?vp10) rfl (by kernel_rfl) (by kernel_rfl) (by kernel_rfl) (fun _ _ _ h => h) (Or.inl ⟨by kernel_rfl, ?hyp10⟩) (by assumption) ?restp10
              case hyp10 => (intro W hSw; (try dsimp only at hSw); go_simp; try with_reducible rfl)
              case' restp10 => try simp only [Act.put, List.setIfInBounds_toArray, List.set_cons_zero, List.set_cons_succ]
              refine wpAnyH_take (i := 10) (oi := ⟨some 121, _, _, _, _, _⟩) (v := ?vp11) rfl (by kernel_rfl) (by kernel_rfl) (by kernel_rfl) (fun _ _ _ h => h) (Or.inl ⟨by kernel_rfl, ?hyp11⟩) (by assumption) ?restp11
              case hyp11 => (intro W hSw; (try dsimp only at hSw); go_simp; try with_reducible rfl)
              case' restp11 => try simp only [Act.put, List.setIfInBounds_toArray, List.set_cons_zero, List.set_cons_succ]
              refine wpAnyH_take (i := 11) (oi := ⟨some 122, _, _, _, _, _⟩) (v := ?vp12) rfl (by kernel_rfl) (by kernel_rfl) (by kernel_rfl) (fun _ _ _ h => h) (Or.inl ⟨by kernel_rfl, ?hyp12⟩) (by assumption) ?restp12
              case hyp12 => (intro W hSw; (try dsimp only at hSw); go_simp; try with_reducible rfl)
              case' restp12 => try simp only [Act.put, List.setIfInBounds_toArray, List.set_cons_zero, List.set_cons_succ]
              refine wpAnyH_take (i := 12) (oi := ⟨some 123, _, _, _, _, _⟩) (v := undef) rfl (by kernel_rfl) (by kernel_rfl) (by kernel_rfl) (fun _ _ _ h => h) (Or.inr ⟨by kernel_rfl, rfl⟩) (by assumption) ?restp13
              case' restp13 => try simp only [Act.put, List.setIfInBounds_toArray, List.set_cons_zero, List.set_cons_succ]
              refine wpAnyH_take (i := 13) (oi := ⟨some 124, _, _, _, _, _⟩) (v := undef) rfl (by kernel_rfl) (by kernel_rfl) (by kernel_rfl) (fun _ _ _ h => h) (Or.inr ⟨by kernel_rfl, rfl⟩) (by assumption) ?restp14
              case' restp14 => try simp only [Act.put, List.setIfInBounds_toArray, List.set_cons_zero, List.set_cons_succ]
              refine wpAnyH_take (i := 14) (oi := ⟨some 125, _, _, _, _, _⟩) (v := undef) rfl (by kernel_rfl) (by kernel_rfl) (by kernel_rfl) (fun _ _ _ h => h) (Or.inr ⟨by kernel_rfl, rfl⟩) (by assumption) ?restp15
              case' restp15 => try simp only [Act.put, List.setIfInBounds_toArray, List.set_cons_zero, List.set_cons_succ]
              refine wpAnyH_take (i := 15) (oi := ⟨some 126, _, _, _, _, _⟩) (v := undef) rfl (by kernel_rfl) (by kernel_rfl) (by kernel_rfl) (fun _ _ _ h => h) (Or.inr ⟨by kernel_rfl, rfl⟩) (by assumption) ?restp16
              case' restp16 => try simp only [Act.put, List.setIfInBounds_toArray, List.set_cons_zero, List.set_cons_succ]
              refine wpAnyH_take (i := 16) (oi := ⟨some 127, _, _, _, _, _⟩) (v := undef) rfl (by kernel_rfl) (by kernel_rfl) (by kernel_rfl) (fun _ _ _ h => h) (Or.inr ⟨by kernel_rfl, rfl⟩) (by assumption) ?restp17
              case' restp17 => try simp only [Act.put, List.setIfInBounds_toArray, List.set_cons_zero, List.set_cons_succ]
              refine wpAnyH_take (i := 17) (oi := ⟨some 128, _, _, _, _, _⟩) (v := undef) rfl (by kernel_rfl) (by kernel_rfl) (by kernel_rfl) (fun _ _ _ h => h) (Or.inr ⟨by kernel_rfl, rfl⟩) (by assumption) ?restp18
              case' restp18 => try simp only [Act.put, List.setIfInBounds_toArray, List.set_cons_zero, List.set_cons_succ]
              refine wpAnyH_take (i := 18) (oi := ⟨some 129, _, _, _, _, _⟩) (v := undef) rfl (by kernel_rfl) (by kernel_rfl) (by kernel_rfl) (fun _ _ _ h => h) (Or.inr ⟨by kernel_rfl, rfl⟩) (by assumption) ?restp19
              case' restp19 => try simp only [Act.put, List.setIfInBounds_toArray, List.set_cons_zero, List.set_cons_succ]
              refine wpAnyH_take (i := 19) (oi := ⟨some 130, _, _, _, _, _⟩) (v := undef) rfl (by kernel_rfl) (by kernel_rfl) (by kernel_rfl) (fun _ _ _ h => h) (Or.inr ⟨by kernel_rfl, rfl⟩) (by assumption) ?restp20
              case' restp20 => try simp only [Act.put, List.setIfInBounds_toArray, List.set_cons_zero, List.set_cons_succ]
              refine wpAnyH_take (i := 20) (oi := ⟨some 131, _, _, _, _, _⟩) (v := undef) rfl (by kernel_rfl) (by kernel_rfl) (by kernel_rfl) (fun _ _ _ h => h) (Or.inr ⟨by kernel_rfl, rfl⟩) (by assumption) ?restp21
              case' restp21 => try simp only [Act.put, List.setIfInBounds_toArray, List.set_cons_zero, List.set_cons_succ]
              refine wpAnyH_take (i := 21) (oi := ⟨some 132, _, _, _, _, _⟩) (v := undef) rfl (by kernel_rfl) (by kernel_rfl) (by kernel_rfl) (fun _ _ _ h => h) (Or.inr ⟨by kernel_rfl, rfl⟩) (by assumption) ?restp22
              case' restp22 => try simp only [Act.put, List.setIfInBounds_toArray, List.set_cons_zero, List.set_cons_succ]
              refine wpAnyH_take (i := 22) (oi := ⟨some 133, _, _, _, _, _⟩) (v := undef) rfl (by kernel_rfl) (by kernel_rfl) (by kernel_rfl) (fun _ _ _ h => h) (Or.inr ⟨by kernel_rfl, rfl⟩) (by assumption) ?restp23
              case' restp23 => try simp only [Act.put, List.setIfInBounds_toArray, List.set_cons_zero, List.set_cons_succ]
              refine wpAnyH_take (i := 23) (oi := ⟨some 134, _, _, _, _, _⟩) (v := ?vp24) rfl (by kernel_rfl) (by kernel_rfl) (by kernel_rfl) (fun _ _ _ h => h) (Or.inl ⟨by kernel_rfl, ?hyp24⟩) (by assumption) ?restp24
              case hyp24 => (intro W hSw; (try dsimp only at hSw); go_simp; try with_reducible rfl)
              case' restp24 => try simp only [Act.put, List.setIfInBounds_toArray, List.set_cons_zero, List.set_cons_succ]
              refine wpAnyH_take (i := 24) (oi := ⟨some 135, _, _, _, _, _⟩) (v := ?vp25) rfl (by kernel_rfl) (by kernel_rfl) (by kernel_rfl) (fun _ _ _ h => h) (Or.inl ⟨by kernel_rfl, ?hyp25⟩) (by assumption) ?restp25
              case hyp25 => (intro W hSw; (try dsimp only at hSw); go_simp; try with_reducible rfl)
              case' restp25 => try simp only [Act.put, List.setIfInBounds_toArray, List.set_cons_zero, List.set_cons_succ]
              refine wpAnyH_take (i := 25) (oi := ⟨some 136, _, _, _, _, _⟩) (v := undef) rfl (by kernel_rfl) (by kernel_rfl) (by kernel_rfl) (fun _ _ _ h => h) (Or.inr ⟨by kernel_rfl, rfl⟩) (by assumption) ?restp26
              case' restp26 => try simp only [Act.put, List.setIfInBounds_toArray, List.set_cons_zero, List.set_cons_succ]
              refine wpAnyH_take (i := 26) (oi := ⟨some 137, _, _, _, _, _⟩) (v := undef) rfl (by kernel_rfl) (by kernel_rfl) (by kernel_rfl) (fun _ _ _ h => h) (Or.inr ⟨by kernel_rfl, rfl⟩) (by assumption) ?restp27
              case' restp27 => try simp only [Act.put, List.setIfInBounds_toArray, List.set_cons_zero, List.set_cons_succ]
              refine wpAnyH_take (i := 27) (oi := ⟨some 138, _, _, _, _, _⟩) (v := undef) rfl (by kernel_rfl) (by kernel_rfl) (by kernel_rfl) (fun _ _ _ h => h) (Or.inr ⟨by kernel_rfl, rfl⟩) (by assumption) ?restp28
              case' restp28 => try simp only [Act.put, List.setIfInBounds_toArray, List.set_cons_zero, List.set_cons_succ]
              refine wpAnyH_take (i := 28) (oi := ⟨some 139, _, _, _, _, _⟩) (v := undef) rfl (by kernel_rfl) (by kernel_rfl) (by kernel_rfl) (fun _ _ _ h => h) (Or.inr ⟨by kernel_rfl, rfl⟩) (by assumption) ?restp29
              case' restp29 => try simp only [Act.put, List.setIfInBounds_toArray, List.set_cons_zero, List.set_cons_succ]
              refine wpAnyH_take (i := 29) (oi := ⟨some 140, _, _, _, _, _⟩) (v := undef) rfl (by kernel_rfl) (by kernel_rfl) (by kernel_rfl) (fun _ _ _ h => h) (Or.inr ⟨by kernel_rfl, rfl⟩) (by assumption) ?restp30
              case' restp30 => try simp only [Act.put, List.setIfInBounds_toArray, List.set_cons_zero, List.set_cons_succ]
              refine wpAnyH_take (i := 30) (oi := ⟨some 141, _, _, _, _, _⟩) (v := undef) rfl (by kernel_rfl) (by kernel_rfl) (by kernel_rfl) (fun _ _ _ h => h) (Or.inr ⟨by kernel_rfl, rfl⟩) (by assumption) ?restp31
              case' restp31 => try simp only [Act.put, List.setIfInBounds_toArray, List.set_cons_zero, List.set_cons_succ]
              refine wpAnyH_take (i := 31) (oi := ⟨some 142, _, _, _, _, _⟩) (v := undef) rfl (by kernel_rfl) (by kernel_rfl) (by kernel_rfl) (fun _ _ _ h => h) (Or.inr ⟨by kernel_rfl, rfl⟩) (by assumption) ?restp32
              case' restp32 => try simp only [Act.put, List.setIfInBounds_toArray, List.set_cons_zero, List.set_cons_succ]
              refine wpAnyH_take (i := 32) (oi := ⟨some 143, _, _, _, _, _⟩) (v := undef) rfl (by kernel_rfl) (by kernel_rfl) (by kernel_rfl) (fun _ _ _ h => h) (Or.inr ⟨by kernel_rfl, rfl⟩) (by assumption) ?restp33
              case' restp33 => try simp only [Act.put, List.setIfInBounds_toArray, List.set_cons_zero, List.set_cons_succ]
              refine wpAnyH_take (i := 33) (oi := ⟨some 144, _, _, _, _, _⟩) (v := undef) rfl (by kernel_rfl) (by kernel_rfl) (by kernel_rfl) (fun _ _ _ h => h) (Or.inr ⟨by kernel_rfl, rfl⟩) (by assumption) ?restp34
              case' restp34 => try simp only [Act.put, List.setIfInBounds_toArray, List.set_cons_zero, List.set_cons_succ]
              refine wpAnyH_take (i := 34) (oi := ⟨some 145, _, _, _, _, _⟩) (v := undef) rfl (by kernel_rfl) (by kernel_rfl) (by kernel_rfl) (fun _ _ _ h => h) (Or.inr ⟨by kernel_rfl, rfl⟩) (by assumption) ?restp35
              case' restp35 => try simp only [Act.put, List.setIfInBounds_toArray, List.set_cons_zero, List.set_cons_succ]
              refine wpAnyH_take (i := 35) (oi := ⟨some 146, _, _, _, _, _⟩) (v := undef) rfl (by kernel_rfl) (by kernel_rfl) (by kernel_rfl) (fun _ _ _ h => h) (Or.inr ⟨by kernel_rfl, rfl⟩) (by assumption) ?restp36
              case' restp36 => try simp only [Act.put, List.setIfInBounds_toArray, List.set_cons_zero, List.set_cons_succ]
              refine wpAnyH_take (i := 36) (oi := ⟨some 147, _, _, _, _, _⟩) (v := ?vp37) rfl (by kernel_rfl) (by kernel_rfl) (by kernel_rfl) (fun _ _ _ h => h) (Or.inl ⟨by kernel_rfl, ?hyp37⟩) (by assumption) ?restp37
              case hyp37 => (intro W hSw; (try dsimp only at hSw); go_simp; try with_reducible rfl)
              case' restp37 => try simp only [Act.put, List.setIfInBounds_toArray, List.set_cons_zero, List.set_cons_succ]
              refine wpAnyH_take (i := 37) (oi := ⟨some 148, _, _, _, _, _⟩) (v := ?vp38) rfl (by kernel_rfl) (by kernel_rfl) (by kernel_rfl) (fun _ _ _ h => h) (Or.inl ⟨by kernel_rfl, ?hyp38⟩) (by assumption) ?restp38
              case hyp38 => (intro W hSw; (try dsimp only at hSw); go_simp; try with_reducible rfl)
              case' restp38 => try simp only [Act.put, List.setIfInBounds_toArray, List.set_cons_zero, List.set_cons_succ]
              refine wpAnyH_take (i := 38) (oi := ⟨some 149, _, _, _, _, _⟩) (v := undef) rfl (by kernel_rfl) (by kernel_rfl) (by kernel_rfl) (fun _ _ _ h => h) (Or.inr ⟨by kernel_rfl, rfl⟩) (by assumption) ?restp39
              case' restp39 => try simp only [Act.put, List.setIfInBounds_toArray, List.set_cons_zero, List.set_cons_succ]
              refine wpAnyH_take (i := 39) (oi := ⟨some 150, _, _, _, _, _⟩) (v := undef) rfl (by kernel_rfl) (by kernel_rfl) (by kernel_rfl) (fun _ _ _ h => h) (Or.inr ⟨by kernel_rfl, rfl⟩) (by assumption) ?restp40
              case' restp40 => try simp only [Act.put, List.setIfInBounds_toArray, List.set_cons_zero, List.set_cons_succ]
              refine wpAnyH_take (i := 40) (oi := ⟨some 151, _, _, _, _, _⟩) (v := undef) rfl (by kernel_rfl) (by kernel_rfl) (by kernel_rfl) (fun _ _ _ h => h) (Or.inr ⟨by kernel_rfl, rfl⟩) (by assumption) ?restp41
              case' restp41 => try simp only [Act.put, List.setIfInBounds_toArray, List.set_cons_zero, List.set_cons_succ]
              refine wpAnyH_take (i := 41) (oi := ⟨some 152, _, _, _, _, _⟩) (v := undef) rfl (by kernel_rfl) (by kernel_rfl) (by kernel_rfl) (fun _ _ _ h => h) (Or.inr ⟨by kernel_rfl, rfl⟩) (by assumption) ?restp42
              case' restp42 => try simp only [Act.put, List.setIfInBounds_toArray, List.set_cons_zero, List.set_cons_succ]
              refine wpAnyH_take (i := 42) (oi := ⟨some 153, _, _, _, _, _⟩) (v := undef) rfl (by kernel_rfl) (by kernel_rfl) (by kernel_rfl) (fun _ _ _ h => h) (Or.inr ⟨by kernel_rfl, rfl⟩) (by assumption) ?restp43
              case' restp43 => try simp only [Act.put, List.setIfInBounds_toArray, List.set_cons_zero, List.set_cons_succ]
              refine wpAnyH_take (i := 43) (oi := ⟨some 154, _, _, _, _, _⟩) (v := undef) rfl (by kernel_rfl) (by kernel_rfl) (by kernel_rfl) (fun _ _ _ h => h) (Or.inr ⟨by kernel_rfl, rfl⟩) (by assumption) ?restp44
              case' restp44 => try simp only [Act.put, List.setIfInBounds_toArray, List.set_cons_zero, List.set_cons_succ]
              refine wpAnyH_take (i := 44) (oi := ⟨some 155, _, _, _, _, _⟩) (v := undef) rfl (by kernel_rfl) (by kernel_rfl) (by kernel_rfl) (fun _ _ _ h => h) (Or.inr ⟨by kernel_rfl, rfl⟩) (by assumption) ?restp45
              case' restp45 => try simp only [Act.put, List.setIfInBounds_toArray, List.set_cons_zero, List.set_cons_succ]
              refine wpAnyH_take (i := 45) (oi := ⟨some 156, _, _, _, _, _⟩) (v := undef) rfl (by kernel_rfl) (by kernel_rfl) (by kernel_rfl) (fun _ _ _ h => h) (Or.inr ⟨by kernel_rfl, rfl⟩) (by assumption) ?restp46
              case' restp46 => try simp only [Act.put, List.setIfInBounds_toArray, List.set_cons_zero, List.set_cons_succ]
              refine wpAnyH_take (i := 46) (oi := ⟨some 157, _, _, _, _, _⟩) (v := undef) rfl (by kernel_rfl) (by kernel_rfl) (by kernel_rfl) (fun _ _ _ h => h) (Or.inr ⟨by kernel_rfl, rfl⟩) (by assumption) ?restp47
              case' restp47 => try simp only [Act.put, List.setIfInBounds_toArray, List.set_cons_zero, List.set_cons_succ]
              refine wpAnyH_take (i := 47) (oi := ⟨some 158, _, _, _, _, _⟩) (v := undef) rfl (by kernel_rfl) (by kernel_rfl) (by kernel_rfl) (fun _ _ _ h => h) (Or.inr ⟨by kernel_rfl, rfl⟩) (by assumption) ?restp48
              case' restp48 => try simp only [Act.put, List.setIfInBounds_toArray, List.set_cons_zero, List.set_cons_succ]
              refine wpAnyH_take (i := 48) (oi := ⟨some 159, _, _, _, _, _⟩) (v := undef) rfl (by kernel_rfl) (by kernel_rfl) (by kernel_rfl) (fun _ _ _ h => h) (Or.inr ⟨by kernel_rfl, rfl⟩) (by assumption) ?restp49
              case' restp49 => try simp only [Act.put, List.setIfInBounds_toArray, List.set_cons_zero, List.set_cons_succ]
              refine wpAnyH_take (i := 49) (oi := ⟨some 160, _, _, _, _, _⟩) (v := ?vp50) rfl (by kernel_rfl) (by kernel_rfl) (by kernel_rfl) (fun _ _ _ h => h) (Or.inl ⟨by kernel_rfl, ?hyp50⟩) (by assumption) ?restp50
              case hyp50 => (intro W hSw; (try dsimp only at hSw); go_simp; try with_reducible rfl)
              case' restp50 => try simp only [Act.put, List.setIfInBounds_toArray, List.set_cons_zero, List.set_cons_succ]
              refine wpAnyH_done (by kernel_rfl) ?_ _
              try clear hrem hquo
              go_wp2
              go_roundw
              case rel => exact ⟨k + 1, by omega, by go_num, by rw [HSU.out, HCV.out]; rfl, hbi.trans (hS1.mono hbi.size)⟩
              case measure => simp [intOf]; omega
          by_cases h1 : (X : Int) ≤ q.x1
          rotate_left
          · as_aux_lemma =>
              have d0 : decide (q.x0 ≤ (X : Int)) = true := decide_eq_true h0
              have d1 : decide ((X : Int) ≤ q.x1) = false := decide_eq_false h1
              have HCV : Hid (coverB q X Y = false) := Lib.hid (coverB_no.2 (by omega))
              clear h0 h1
              go_wp2_with fail
              refine wp_region_held_drew (S := fun W : World => Below wr.heap.size wr W) (by kernel_rfl) hS1 (fun hHeld => ?_)
              clear hHeld
              generalize wr.drew = wzq at *
              refine wpAnyH_take (i := 0) (oi := ⟨some 111, _, _, _, _, _⟩) (v := ?vq1) rfl (by kernel_rfl) (by kernel_rfl) (by kernel_rfl) (fun _ _ _ h => h) (Or.inl ⟨by kernel_rfl, ?hyq1⟩) (by assumption) ?restq1
              case hyq1 => (intro W hSw; (try dsimp only at hSw); go_simp; try with_reducible rfl)
              case' restq1 => try simp only [Act.put, List.setIfInBounds_toArray, List.set_cons_zero, List.set_cons_succ]
              refine wpAnyH_take (i := 1) (oi := ⟨some 112, _, _, _, _, _⟩) (v := ?vq2) rfl (by kernel_rfl) (by kernel_rfl) (by kernel_rfl) (fun _ _ _ h => h) (Or.inl ⟨by kernel_rfl, ?hyq2⟩) (by assumption) ?restq2
              case hyq2 => (intro W hSw; (try dsimp only at hSw); go_simp; try with_reducible rfl)
              case' restq2 => try simp only [Act.put, List.setIfInBounds_toArray, List.set_cons_zero, List.set_cons_succ]
              refine wpAnyH_take (i := 2) (oi := ⟨some 113, _, _, _, _, _⟩) (v := ?vq3) rfl (by kernel_rfl) (by kernel_rfl) (by kernel_rfl) (fun _ _ _ h => h) (Or.inl ⟨by kernel_rfl, ?hyq3⟩) (by assumption) ?restq3
              case hyq3 => (intro W hSw; (try dsimp only at hSw); go_simp; try with_reducible rfl)
              case' restq3 => try simp only [Act.put, List.setIfInBounds_toArray, List.set_cons_zero, List.set_cons_succ]
              refine wpAnyH_take (i := 3) (oi := ⟨some 114, _, _, _, _, _⟩) (v := ?vq4) rfl (by kernel_rfl) (by kernel_rfl) (by kernel_rfl) (fun _ _ _ h => h) (Or.inl ⟨by kernel_rfl, ?hyq4⟩) (by assumption) ?restq4
              case hyq4 => (intro W hSw; (try dsimp only at hSw); go_simp; try with_reducible rfl)
              case' restq4 => try simp only [Act.put, List.setIfInBounds_toArray, List.set_cons_zero, List.set_cons_succ]
              refine wpAnyH_take (i := 4) (oi := ⟨some 115, _, _, _, _, _⟩) (v := ?vq5) rfl (by kernel_rfl) (by kernel_rfl) (by kernel_rfl) (fun _ _ _ h => h) (Or.inl ⟨by kernel_rfl, ?hyq5⟩) (by assumption) ?restq5
              case hyq5 => (intro W hSw; obtain ⟨g0, g1, g2, g3⟩ := HB.out W hSw; (try dsimp only at hSw); go_simp; try with_reducible rfl)
              case' restq5 => try simp only [Act.put, List.setIfInBounds_toArray, List.set_cons_zero, List.set_cons_succ]
              refine wpAnyH_take (i := 5) (oi := ⟨some 116, _, _, _, _, _⟩) (v := ?vq6) rfl (by kernel_rfl) (by kernel_rfl) (by kernel_rfl) (fun _ _ _ h => h) (Or.inl ⟨by kernel_rfl, ?hyq6⟩) (by assumption) ?restq6
              case hyq6 => (intro W hSw; (try dsimp only at hSw); go_simp; try with_reducible rfl)
              case' restq6 => try simp only [Act.put, List.setIfInBounds_toArray, List.set_cons_zero, List.set_cons_succ]
              refine wpAnyH_take (i := 6) (oi := ⟨some 117, _, _, _, _, _⟩) (v := ?vq7) rfl (by kernel_rfl) (by kernel_rfl) (by kernel_rfl) (fun _ _ _ h => h) (Or.inl ⟨by kernel_rfl, ?hyq7⟩) (by assumption) ?restq7
              case hyq7 => (intro W hSw; (try dsimp only at hSw); go_simp; try with_reducible rfl)
              case' restq7 => try simp only [Act.put, List.setIfInBounds_toArray, List.set_cons_zero, List.set_cons_succ]
              refine wpAnyH_take (i := 7) (oi := ⟨some 118, _, _, _, _, _⟩) (v := ?vq8) rfl (by kernel_rfl) (by kernel_rfl) (by kernel_rfl) (fun _ _ _ h => h) (Or.inl ⟨by kernel_rfl, ?hyq8⟩) (by assumption) ?restq8
              case hyq8 => (intro W hSw; (try dsimp only at hSw); go_simp; try with_reducible rfl)
              case' restq8 => try simp only [Act.put, List.setIfInBounds_toArray, List.set_cons_zero, List.set_cons_succ]
              refine wpAnyH_take (i := 8) (oi := ⟨some 119, _, _, _, _, _⟩) (v := ?vq9) rfl (by kernel_rfl) (by kernel_rfl) (by kernel_rfl) (fun _ _ _ h => h) (Or.inl ⟨by kernel_rfl, ?hyq9⟩) (by assumption) ?restq9
              case hyq9 => (intro W hSw; have gw := HGW.out W hSw; (try dsimp only at hSw); go_simp; try with_reducible rfl)
              case' restq9 => try simp only [Act.put, List.setIfInBounds_toArray, List.set_cons_zero, List.set_cons_succ]
              refine wpAnyH_take (i := 9) (oi := ⟨some 120, _, _, _, _, _⟩) (v := ?vq10) rfl (by kernel_rfl) (by kernel_rfl) (by kernel_rfl) (fun _ _ _ h => h) (Or.inl ⟨by kernel_rfl, ?hyq10⟩) (by assumption) ?restq10
              case hyq10 => (intro W hSw; (try dsimp only at hSw); go_simp; try with_reducible rfl)
              case' restq10 => try simp only [Act.put, List.setIfInBounds_toArray, List.set_cons_zero, List.set_cons_succ]
              refine wpAnyH_take (i := 10) (oi := ⟨some 121, _, _, _, _, _⟩) (v := ?vq11) rfl (by kernel_rfl) (by kernel_rfl) (by kernel_rfl) (fun _ _ _ h => h) (Or.inl ⟨by kernel_rfl, ?hyq11⟩) (by assumption) ?restq11
              case hyq11 => (intro W hSw; (try dsimp only at hSw); go_simp; try with_reducible rfl)
              case' restq11 => try simp only [Act.put, List.setIfInBounds_toArray, List.set_cons_zero, List.set_cons_succ]
              refine wpAnyH_take (i := 11) (oi := ⟨some 122, _, _, _, _, _⟩) (v := ?vq12) rfl (by kernel_rfl) (by kernel_rfl) (by kernel_rfl) (fun _ _ _ h => h) (Or.inl ⟨by kernel_rfl, ?hyq12⟩) (by assumption) ?restq12
              case hyq12 => (intro W hSw; (try dsimp only at hSw); go_simp; try with_reducible rfl)
              case' restq12 => try simp only [Act.put, List.setIfInBounds_toArray, List.set_cons_zero, List.set_cons_succ]
              refine wpAnyH_take (i := 12) (oi := ⟨some 123, _, _, _, _, _⟩) (v := ?vq13) rfl (by kernel_rfl) (by kernel_rfl) (by kernel_rfl) (fun _ _ _ h => h) (Or.inl ⟨by kernel_rfl, ?hyq13⟩) (by assumption) ?restq13
              case hyq13 => (intro W hSw; (try dsimp only at hSw); go_simp; try with_reducible rfl)
              case' restq13 => try simp only [Act.put, List.setIfInBounds_toArray, List.set_cons_zero, List.set_cons_succ]
              refine wpAnyH_take (i := 13) (oi := ⟨some 124, _, _, _, _, _⟩) (v := ?vq14) rfl (by kernel_rfl) (by kernel_rfl) (by kernel_rfl) (fun _ _ _ h => h) (Or.inl ⟨by kernel_rfl, ?hyq14⟩) (by assumption) ?restq14
              case hyq14 => (intro W hSw; (try dsimp only at hSw); go_simp; try with_reducible rfl)
              case' restq14 => try simp only [Act.put, List.setIfInBounds_toArray, List.set_cons_zero, List.set_cons_succ]
              refine wpAnyH_take (i := 14) (oi := ⟨some 125, _, _, _, _, _⟩) (v := ?vq15) rfl (by kernel_rfl) (by kernel_rfl) (by kernel_rfl) (fun _ _ _ h => h) (Or.inl ⟨by kernel_rfl, ?hyq15⟩) (by assumption) ?restq15
              case hyq15 => (intro W hSw; (try dsimp only at hSw); go_simp; try with_reducible rfl)
              case' restq15 => try simp only [Act.put, List.setIfInBounds_toArray, List.set_cons_zero, List.set_cons_succ]
              refine wpAnyH_take (i := 15) (oi := ⟨some 126, _, _, _, _, _⟩) (v := ?vq16) rfl (by kernel_rfl) (by kernel_rfl) (by kernel_rfl) (fun _ _ _ h => h) (Or.inl ⟨by kernel_rfl, ?hyq16⟩) (by assumption) ?restq16
              case hyq16 => (intro W hSw; have gw := HGW.out W hSw; (try dsimp only at hSw); go_simp; try with_reducible rfl)
              case' restq16 => try simp only [Act.put, List.setIfInBounds_toArray, List.set_cons_zero, List.set_cons_succ]
              refine wpAnyH_take (i := 16) (oi := ⟨some 127, _, _, _, _, _⟩) (v := ?vq17) rfl (by kernel_rfl) (by kernel_rfl) (by kernel_rfl) (fun _ _ _ h => h) (Or.inl ⟨by kernel_rfl, ?hyq17⟩) (by assumption) ?restq17
              case hyq17 => (intro W hSw; (try dsimp only at hSw); go_simp; try with_reducible rfl)
              case' restq17 => try simp only [Act.put, List.setIfInBounds_toArray, List.set_cons_zero, List.set_cons_succ]
              refine wpAnyH_take (i := 17) (oi := ⟨some 128, _, _, _, _, _⟩) (v := ?vq18) rfl (by kernel_rfl) (by kernel_rfl) (by kernel_rfl) (fun _ _ _ h => h) (Or.inl ⟨by kernel_rfl, ?hyq18⟩) (by assumption) ?restq18
              case hyq18 => (intro W hSw; (try dsimp only at hSw); go_simp; try with_reducible rfl)
              case' restq18 => try simp only [Act.put, List.setIfInBounds_toArray, List.set_cons_zero, List.set_cons_succ]
              refine wpAnyH_take (i := 18) (oi := ⟨some 129, _, _, _, _, _⟩) (v := ?vq19) rfl (by kernel_rfl) (by kernel_rfl) (by kernel_rfl) (fun _ _ _ h => h) (Or.inl ⟨by kernel_rfl, ?hyq19⟩) (by assumption) ?restq19
              case hyq19 => (intro W hSw; (try dsimp only at hSw); go_simp; try with_reducible rfl)
              case' restq19 => try simp only [Act.put, List.setIfInBounds_toArray, List.set_cons_zero, List.set_cons_succ]
              refine wpAnyH_take (i := 19) (oi := ⟨some 130, _, _, _, _, _⟩) (v := ?vq20) rfl (by kernel_rfl) (by kernel_rfl) (by kernel_rfl) (fun _ _ _ h => h) (Or.inl ⟨by kernel_rfl, ?hyq20⟩) (by assumption) ?restq20
              case hyq20 => (intro W hSw; (try dsimp only at hSw); go_simp; try with_reducible rfl)
              case' restq20 => try simp only [Act.put, List.setIfInBounds_toArray, List.set_cons_zero, List.set_cons_succ]
              refine wpAnyH_take (i := 20) (oi := ⟨some 131, _, _, _, _, _⟩) (v := ?vq21) rfl (by kernel_rfl) (by kernel_rfl) (by kernel_rfl) (fun _ _ _ h => h) (Or.inl ⟨by kernel_rfl, ?hyq21⟩) (by assumption) ?restq21
              case hyq21 => (intro W hSw; (try dsimp only at hSw); go_simp; try with_reducible rfl)
              case' restq21 => try simp only [Act.put, List.setIfInBounds_toArray, List.set_cons_zero, List.set_cons_succ]
              refine wpAnyH_take (i := 21) (oi := ⟨some 132, _, _, _, _, _⟩) (v := ?vq22) rfl (by kernel_rfl) (by kernel_rfl) (by kernel_rfl) (fun _ _ _ h => h) (Or.inl ⟨by kernel_rfl, ?hyq22⟩) (by assumption) ?restq22
              case hyq22 => (intro W hSw; obtain ⟨g0, g1, g2, g3⟩ := HB.out W hSw; (try dsimp only at hSw); go_simp; try with_reducible rfl)
              case' restq22 => try simp only [Act.put, List.setIfInBounds_toArray, List.set_cons_zero, List.set_cons_succ]
              refine wpAnyH_take (i := 22) (oi := ⟨some 133, _, _, _, _, _⟩) (v := ?vq23) rfl (by kernel_rfl) (by kernel_rfl) (by kernel_rfl) (fun _ _ _ h => h) (Or.inl ⟨by kernel_rfl, ?hyq23⟩) (by assumption) ?restq23
              case hyq23 => (intro W hSw; (try dsimp only at hSw); go_simp; try with_reducible rfl)
              case' restq23 => try simp only [Act.put, List.setIfInBounds_toArray, List.set_cons_zero, List.set_cons_succ]
              refine wpAnyH_take (i := 23) (oi := ⟨some 134, _, _, _, _, _⟩) (v := ?vq24) rfl (by kernel_rfl) (by kernel_rfl) (by kernel_rfl) (fun _ _ _ h => h) (Or.inl ⟨by kernel_rfl, ?hyq24⟩) (by assumption) ?restq24
              case hyq24 => (intro W hSw; (try dsimp only at hSw); go_simp; try with_reducible rfl)
              case' restq24 => try simp only [Act.put, List.setIfInBounds_toArray, List.set_cons_zero, List.set_cons_succ]
              refine wpAnyH_take (i := 24) (oi := ⟨some 135, _, _, _, _, _⟩) (v := ?vq25) rfl (by kernel_rfl) (by kernel_rfl) (by kernel_rfl) (fun _ _ _ h => h) (Or.inl ⟨by kernel_rfl, ?hyq25⟩) (by assumption) ?restq25
              case hyq25 => (intro W hSw; (try dsimp only at hSw); go_simp; try with_reducible rfl)
              case' restq25 => try simp only [Act.put, List.setIfInBounds_toArray, List.set_cons_zero, List.set_cons_succ]
              refine wpAnyH_take (i := 25) (oi := ⟨some 136, _, _, _, _, _⟩) (v := undef) rfl (by kernel_rfl) (by kernel_rfl) (by kernel_rfl) (fun _ _ _ h => h) (Or.inr ⟨by kernel_rfl, rfl⟩) (by assumption) ?restq26
              case' restq26 => try simp only [Act.put, List.setIfInBounds_toArray, List.set_cons_zero, List.set_cons_succ]
              refine wpAnyH_take (i := 26) (oi := ⟨some 137, _, _, _, _, _⟩) (v := undef) rfl (by kernel_rfl) (by kernel_rfl) (by kernel_rfl) (fun _ _ _ h => h) (Or.inr ⟨by kernel_rfl, rfl⟩) (by assumption) ?restq27
              case' restq27 => try simp only [Act.put, List.setIfInBounds_toArray, List.set_cons_zero, List.set_cons_succ]
              refine wpAnyH_take (i := 27) (oi := ⟨some 138, _, _, _, _, _⟩) (v := undef) rfl (by kernel_rfl) (by kernel_rfl) (by kernel_rfl) (fun _ _ _ h => h) (Or.inr ⟨by kernel_rfl, rfl⟩) (by assumption) ?restq28
              case' restq28 => try simp only [Act.put, List.setIfInBounds_toArray, List.set_cons_zero, List.set_cons_succ]
              refine wpAnyH_take (i := 28) (oi := ⟨some 139, _, _, _, _, _⟩) (v := undef) rfl (by kernel_rfl) (by kernel_rfl) (by kernel_rfl) (fun _ _ _ h => h) (Or.inr ⟨by kernel_rfl, rfl⟩) (by assumption) ?restq29
              case' restq29 => try simp only [Act.put, List.setIfInBounds_toArray, List.set_cons_zero, List.set_cons_succ]
              refine wpAnyH_take (i := 29) (oi := ⟨some 140, _, _, _, _, _⟩) (v := undef) rfl (by kernel_rfl) (by kernel_rfl) (by kernel_rfl) (fun _ _ _ h => h) (Or.inr ⟨by kernel_rfl, rfl⟩) (by assumption) ?restq30
              case' restq30 => try simp only [Act.put, List.setIfInBounds_toArray, List.set_cons_zero, List.set_cons_succ]
              refine wpAnyH_take (i := 30) (oi := ⟨some 141, _, _, _, _, _⟩) (v := undef) rfl (by kernel_rfl) (by kernel_rfl) (by kernel_rfl) (fun _ _ _ h => h) (Or.inr ⟨by kernel_rfl, rfl⟩) (by assumption) ?restq31
              case' restq31 => try simp only [Act.put, List.setIfInBounds_toArray, List.set_cons_zero, List.set_cons_succ]
              refine wpAnyH_take (i := 31) (oi := ⟨some 142, _, _, _, _, _⟩) (v := undef) rfl (by kernel_rfl) (by kernel_rfl) (by kernel_rfl) (fun _ _ _ h => h) (Or.inr ⟨by kernel_rfl, rfl⟩) (by assumption) ?restq32
              case' restq32 => try simp only [Act.put, List.setIfInBounds_toArray, List.set_cons_zero, List.set_cons_succ]
              refine wpAnyH_take (i := 32) (oi := ⟨some 143, _, _, _, _, _⟩) (v := undef) rfl (by kernel_rfl) (by kernel_rfl) (by kernel_rfl) (fun _ _ _ h => h) (Or.inr ⟨by kernel_rfl, rfl⟩) (by assumption) ?restq33
              case' restq33 => try simp only [Act.put, List.setIfInBounds_toArray, List.set_cons_zero, List.set_cons_succ]
              refine wpAnyH_take (i := 33) (oi := ⟨some 144, _, _, _, _, _⟩) (v := undef) rfl (by kernel_rfl) (by kernel_rfl) (by kernel_rfl) (fun _ _ _ h => h) (Or.inr ⟨by kernel_rfl, rfl⟩) (by assumption) ?restq34
              case' restq34 => try simp only [Act.put, List.setIfInBounds_toArray, List.set_cons_zero, List.set_cons_succ]
              refine wpAnyH_take (i := 34) (oi := ⟨some 145, _, _, _, _, _⟩) (v := undef) rfl (by kernel_rfl) (by kernel_rfl) (by kernel_rfl) (fun _ _ _ h => h) (Or.inr ⟨by kernel_rfl, rfl⟩) (by assumption) ?restq35
              case' restq35 => try simp only [Act.put, List.setIfInBounds_toArray, List.set_cons_zero, List.set_cons_succ]
              refine wpAnyH_take (i := 35) (oi := ⟨some 146, _, _, _, _, _⟩) (v := undef) rfl (by kernel_rfl) (by kernel_rfl) (by kernel_rfl) (fun _ _ _ h => h) (Or.inr ⟨by kernel_rfl, rfl⟩) (by assumption) ?restq36
              case' restq36 => try simp only [Act.put, List.setIfInBounds_toArray, List.set_cons_zero, List.set_cons_succ]
              refine wpAnyH_take (i := 36) (oi := ⟨some 147, _, _, _, _, _⟩) (v := ?vq37) rfl (by kernel_rfl) (by kernel_rfl) (by kernel_rfl) (fun _ _ _ h => h) (Or.inl ⟨by kernel_rfl, ?hyq37⟩) (by assumption) ?restq37
              case hyq37 => (intro W hSw; (try dsimp only at hSw); go_simp; try with_reducible rfl)
              case' restq37 => try simp only [Act.put, List.setIfInBounds_toArray, List.set_cons_zero, List.set_cons_succ]
              refine wpAnyH_take (i := 37) (oi := ⟨some 148, _, _, _, _, _⟩) (v := ?vq38) rfl (by kernel_rfl) (by kernel_rfl) (by kernel_rfl) (fun _ _ _ h => h) (Or.inl ⟨by kernel_rfl, ?hyq38⟩) (by assumption) ?restq38
              case hyq38 => (intro W hSw; (try dsimp only at hSw); go_simp; try with_reducible rfl)
              case' restq38 => try simp only [Act.put, List.setIfInBounds_toArray, List.set_cons_zero, List.set_cons_succ]
              refine wpAnyH_take (i := 38) (oi := ⟨some 149, _, _, _, _, _⟩) (v := undef) rfl (by kernel_rfl) (by kernel_rfl) (by kernel_rfl) (fun _ _ _ h => h) (Or.inr ⟨by kernel_rfl, rfl⟩) (by assumption) ?restq39
              case' restq39 => try simp only [Act.put, List.setIfInBounds_toArray, List.set_cons_zero, List.set_cons_succ]
              refine wpAnyH_take (i := 39) (oi := ⟨some 150, _, _, _, _, _⟩) (v := undef) rfl (by kernel_rfl) (by kernel_rfl) (by kernel_rfl) (fun _ _ _ h => h) (Or.inr ⟨by kernel_rfl, rfl⟩) (by assumption) ?restq40
              case' restq40 => try simp only [Act.put, List.setIfInBounds_toArray, List.set_cons_zero, List.set_cons_succ]
              refine wpAnyH_take (i := 40) (oi := ⟨some 151, _, _, _, _, _⟩) (v := undef) rfl (by kernel_rfl) (by kernel_rfl) (by kernel_rfl) (fun _ _ _ h => h) (Or.inr ⟨by kernel_rfl, rfl⟩) (by assumption) ?restq41
              case' restq41 => try simp only [Act.put, List.setIfInBounds_toArray, List.set_cons_zero, List.set_cons_succ]
              refine wpAnyH_take (i := 41) (oi := ⟨some 152, _, _, _, _, _⟩) (v := undef) rfl (by kernel_rfl) (by kernel_rfl) (by kernel_rfl) (fun _ _ _ h => h) (Or.inr ⟨by kernel_rfl, rfl⟩) (by assumption) ?restq42
              case' restq42 => try simp only [Act.put, List.setIfInBounds_toArray, List.set_cons_zero, List.set_cons_succ]
              refine wpAnyH_take (i := 42) (oi := ⟨some 153, _, _, _, _, _⟩) (v := undef) rfl (by kernel_rfl) (by kernel_rfl) (by kernel_rfl) (fun _ _ _ h => h) (Or.inr ⟨by kernel_rfl, rfl⟩) (by assumption) ?restq43
              case' restq43 => try simp only [Act.put, List.setIfInBounds_toArray, List.set_cons_zero, List.set_cons_succ]
              refine wpAnyH_take (i := 43) (oi := ⟨some 154, _, _, _, _, _⟩) (v := undef) rfl (by kernel_rfl) (by kernel_rfl) (by kernel_rfl) (fun _ _ _ h => h) (Or.inr ⟨by kernel_rfl, rfl⟩) (by assumption) ?restq44
              case' restq44 => try simp only [Act.put, List.setIfInBounds_toArray, List.set_cons_zero, List.set_cons_succ]
              refine wpAnyH_take (i := 44) (oi := ⟨some 155, _, _, _, _, _⟩) (v := undef) rfl (by kernel_rfl) (by kernel_rfl) (by kernel_rfl) (fun _ _ _ h => h) (Or.inr ⟨by kernel_rfl, rfl⟩) (by assumption) ?restq45
              case' restq45 => try simp only [Act.put, List.setIfInBounds_toArray, List.set_cons_zero, List.set_cons_succ]
              refine wpAnyH_take (i := 45) (oi := ⟨some 156, _, _, _, _, _⟩) (v := undef) rfl (by kernel_rfl) (by kernel_rfl) (by kernel_rfl) (fun _ _ _ h => h) (Or.inr ⟨by kernel_rfl, rfl⟩) (by assumption) ?restq46
              case' restq46 => try simp only [Act.put, List.setIfInBounds_toArray, List.set_cons_zero, List.set_cons_succ]
              refine wpAnyH_take (i := 46) (oi := ⟨some 157, _, _, _, _, _⟩) (v := undef) rfl (by kernel_rfl) (by kernel_rfl) (by kernel_rfl) (fun _ _ _ h => h) (Or.inr ⟨by kernel_rfl, rfl⟩) (by assumption) ?restq47
              case' restq47 => try simp only [Act.put, List.setIfInBounds_toArray, List.set_cons_zero, List.set_cons_succ]
              refine wpAnyH_take (i := 47) (oi := ⟨some 158, _, _, _, _, _⟩) (v := undef) rfl (by kernel_rfl) (by kernel_rfl) (by kernel_rfl) (fun _ _ _ h => h) (Or.inr ⟨by kernel_rfl, rfl⟩) (by assumption) ?restq48
              case' restq48 => try simp only [Act.put, List.setIfInBounds_toArray, List.set_cons_zero, List.set_cons_succ]
              refine wpAnyH_take (i := 48) (oi := ⟨some 159, _, _, _, _, _⟩) (v := undef) rfl (by kernel_rfl) (by kernel_rfl) (by kernel_rfl) (fun _ _ _ h => h) (Or.inr ⟨by kernel_rfl, rfl⟩) (by assumption) ?restq49
              case' restq49 => try simp only [Act.put, List.setIfInBounds_toArray, List.set_cons_zero, List.set_cons_succ]
              refine wpAnyH_take (i := 49) (oi := ⟨some 160, _, _, _, _, _⟩) (v := ?vq50) rfl (by kernel_rfl) (by kernel_rfl) (by kernel_rfl) (fun _ _ _ h => h) (Or.inl ⟨by kernel_rfl, ?hyq50⟩) (by assumption) ?restq50
              case hyq50 => (intro W hSw; (try dsimp only at hSw); go_simp; try with_reducible rfl)
              case' restq50 => try simp only [Act.put, List.setIfInBounds_toArray, List.set_cons_zero, List.set_cons_succ]
              refine wpAnyH_done (by kernel_rfl) ?_ _
              try clear hrem hquo
              go_wp2
              go_roundw
              case rel => exact ⟨k + 1, by omega, by go_num, by rw [HSU.out, HCV.out]; rfl, hbi.trans (hS1.mono hbi.size)⟩
              case measure => simp [intOf]; omega
          by_cases h2 : q.y0 ≤ (Y : Int)
          rotate_left
          · as_aux_lemma =>
              have d0 : decide (q.x0 ≤ (X : Int)) = true := decide_eq_true h0
              have d1 : decide ((X : Int) ≤ q.x1) = true := decide_eq_true h1
              have d2 : decide (q.y0 ≤ (Y : Int)) = false := decide_eq_false h2
              have HCV : Hid (coverB q X Y = false) := Lib.hid (coverB_no.2 (by omega))
              clear h0 h1 h2
              go_wp2_with fail
              refine wp_region_held_drew (S := fun W : World => Below wr.heap.size wr W) (by kernel_rfl) hS1 (fun hHeld => ?_)
              clear hHeld
              generalize wr.drew = wzr at *
              refine wpAnyH_take (i := 0) (oi := ⟨some 111, _, _, _, _, _⟩) (v := ?vr1) rfl (by kernel_rfl) (by kernel_rfl) (by kernel_rfl) (fun _ _ _ h => h) (Or.inl ⟨by kernel_rfl, ?hyr1⟩) (by assumption) ?restr1
              case hyr1 => (intro W hSw; (try dsimp only at hSw); go_simp; try with_reducible rfl)
              case' restr1 => try simp only [Act.put, List.setIfInBounds_toArray, List.set_cons_zero, List.set_cons_succ]
              refine wpAnyH_take (i := 1) (oi := ⟨some 112, _, _, _, _, _⟩) (v := ?vr2) rfl (by kernel_rfl) (by kernel_rfl) (by kernel_rfl) (fun _ _ _ h => h) (Or.inl ⟨by kernel_rfl, ?hyr2⟩) (by assumption) ?restr2
              case hyr2 => (intro W hSw; (try dsimp only at hSw); go_simp; try with_reducible rfl)
              case' restr2 => try simp only [Act.put, List.setIfInBounds_toArray, List.set_cons_zero, List.set_cons_succ]
              refine wpAnyH_take (i := 2) (oi := ⟨some 113, _, _, _, _, _⟩) (v := ?vr3) rfl (by kernel_rfl) (by kernel_rfl) (by kernel_rfl) (fun _ _ _ h => h) (Or.inl ⟨by kernel_rfl, ?hyr3⟩) (by assumption) ?restr3
              case hyr3 => (intro W hSw; (try dsimp only at hSw); go_simp; try with_reducible rfl)
              case' restr3 => try simp only [Act.put, List.setIfInBounds_toArray, List.set_cons_zero, List.set_cons_succ]
              refine wpAnyH_take (i := 3) (oi := ⟨some 114, _, _, _, _, _⟩) (v := ?vr4) rfl (by kernel_rfl) (by kernel_rfl) (by kernel_rfl) (fun _ _ _ h => h) (Or.inl ⟨by kernel_rfl, ?hyr4⟩) (by assumption) ?restr4
              case hyr4 => (intro W hSw; (try dsimp only at hSw); go_simp; try with_reducible rfl)
              case' restr4 => try simp only [Act.put, List.setIfInBounds_toArray, List.set_cons_zero, List.set_cons_succ]
              refine wpAnyH_take (i := 4) (oi := ⟨some 115, _, _, _, _, _⟩) (v := ?vr5) rfl (by kernel_rfl) (by kernel_rfl) (by kernel_rfl) (fun _ _ _ h => h) (Or.inl ⟨by kernel_rfl, ?hyr5⟩) (by assumption) ?restr5
              case hyr5 => (intro W hSw; obtain ⟨g0, g1, g2, g3⟩ := HB.out W hSw; (try dsimp only at hSw); go_simp; try with_reducible rfl)
              case' restr5 => try simp only [Act.put, List.setIfInBounds_toArray, List.set_cons_zero, List.set_cons_succ]
              refine wpAnyH_take (i := 5) (oi := ⟨some 116, _, _, _, _, _⟩) (v := ?vr6) rfl (by kernel_rfl) (by kernel_rfl) (by kernel_rfl) (fun _ _ _ h => h) (Or.inl ⟨by kernel_rfl, ?hyr6⟩) (by assumption) ?restr6
              case hyr6 => (intro W hSw; (try dsimp only at hSw); go_simp; try with_reducible rfl)
              case' restr6 => try simp only [Act.put, List.setIfInBounds_toArray, List.set_cons_zero, List.set_cons_succ]
              refine wpAnyH_take (i := 6) (oi := ⟨some 117, _, _, _, _, _⟩) (v := ?vr7) rfl (by kernel_rfl) (by kernel_rfl) (by kernel_rfl) (fun _ _ _ h => h) (Or.inl ⟨by kernel_rfl, ?hyr7⟩) (by assumption) ?restr7
              case hyr7 => (intro W hSw; (try dsimp only at hSw); go_simp; try with_reducible rfl)
              case' restr7 => try simp only [Act.put, List.setIfInBounds_toArray, List.set_cons_zero, List.set_cons_succ]
              refine wpAnyH_take (i := 7) (oi := ⟨some 118, _, _, _, _, _⟩) (v := ?vr8) rfl (by kernel_rfl) (by kernel_rfl) (by kernel_rfl) (fun _ _ _ h => h) (Or.inl ⟨by kernel_rfl, ?hyr8⟩) (by assumption) ?restr8
              case hyr8 => (intro W hSw; (try dsimp only at hSw); go_simp; try with_reducible rfl)
              case' restr8 => try simp only [Act.put, List.setIfInBounds_toArray, List.set_cons_zero, List.set_cons_succ]
              refine wpAnyH_take (i := 8) (oi := ⟨some 119, _, _, _, _, _⟩) (v := ?vr9) rfl (by kernel_rfl) (by kernel_rfl) (by kernel_rfl) (fun _ _ _ h => h) (Or.inl ⟨by kernel_rfl, ?hyr9⟩) (by assumption) ?restr9
              case hyr9 => (intro W hSw; have gw := HGW.out W hSw; (try dsimp only at hSw); go_simp; try with_reducible rfl)
              case' restr9 => try simp only [Act.put, List.setIfInBounds_toArray, List.set_cons_zero, List.set_cons_succ]
              refine wpAnyH_take (i := 9) (oi := ⟨some 120, _, _, _, _, _⟩) (v := ?vr10) rfl (by kernel_rfl) (by kernel_rfl) (by kernel_rfl) (fun _ _ _ h => h) (Or.inl ⟨by kernel_rfl, ?hyr10⟩) (by assumption) ?restr10
              case hyr10 => (intro W hSw; (try dsimp only at hSw); go_simp; try with_reducible rfl)
              case' restr10 => try simp only [Act.put, List.setIfInBounds_toArray, List.set_cons_zero, List.set_cons_succ]
              refine wpAnyH_take (i := 10) (oi := ⟨some 121, _, _, _, _, _⟩) (v := ?vr11) rfl (by kernel_rfl) (by kernel_rfl) (by kernel_rfl) (fun _ _ _ h => h) (Or.inl ⟨by kernel_rfl, ?hyr11⟩) (by assumption) ?restr11
              case hyr11 => (intro W hSw; (try dsimp only at hSw); go_simp; try with_reducible rfl)
              case' restr11 => try simp only [Act.put, List.setIfInBounds_toArray, List.set_cons_zero, List.set_cons_succ]
              refine wpAnyH_take (i := 11) (oi := ⟨some 122, _, _, _, _, _⟩) (v := ?vr12) rfl (by kernel_rfl) (by kernel_rfl) (by kernel_rfl) (fun _ _ _ h => h) (Or.inl ⟨by kernel_rfl, ?hyr12⟩) (by assumption) ?restr12
              case hyr12 => (intro W hSw; (try dsimp only at hSw); go_simp; try with_reducible rfl)
              case' restr12 => try simp only [Act.put, List.setIfInBounds_toArray, List.set_cons_zero, List.set_cons_succ]
              refine wpAnyH_take (i := 12) (oi := ⟨some 123, _, _, _, _, _⟩) (v := ?vr13) rfl (by kernel_rfl) (by kernel_rfl) (by kernel_rfl) (fun _ _ _ h => h) (Or.inl ⟨by kernel_rfl, ?hyr13⟩) (by assumption) ?restr13
              case hyr13 => (intro W hSw; (try dsimp only at hSw); go_simp; try with_reducible rfl)
              case' restr13 => try simp only [Act.put, List.setIfInBounds_toArray, List.set_cons_zero, List.set_cons_succ]
              refine wpAnyH_take (i := 13) (oi := ⟨some 124, _, _, _, _, _⟩) (v := ?vr14) rfl (by kernel_rfl) (by kernel_rfl) (by kernel_rfl) (fun _ _ _ h => h) (Or.inl ⟨by kernel_rfl, ?hyr14⟩) (by assumption) ?restr14
              case hyr14 => (intro W hSw; (try dsimp only at hSw); go_simp; try with_reducible rfl)
              case' restr14 => try simp only [Act.put, List.setIfInBounds_toArray, List.set_cons_zero, List.set_cons_succ]
              refine wpAnyH_take (i := 14) (oi := ⟨some 125, _, _, _, _, _⟩) (v := ?vr15) rfl (by kernel_rfl) (by kernel_rfl) (by kernel_rfl) (fun _ _ _ h => h) (Or.inl ⟨by kernel_rfl, ?hyr15⟩) (by assumption) ?restr15
              case hyr15 => (intro W hSw; (try dsimp only at hSw); go_simp; try with_reducible rfl)
              case' restr15 => try simp only [Act.put, List.setIfInBounds_toArray, List.set_cons_zero, List.set_cons_succ]
              refine wpAnyH_take (i := 15) (oi := ⟨some 126, _, _, _, _, _⟩) (v := ?vr16) rfl (by kernel_rfl) (by kernel_rfl) (by kernel_rfl) (fun _ _ _ h => h) (Or.inl ⟨by kernel_rfl, ?hyr16⟩) (by assumption) ?restr16
              case hyr16 => (intro W hSw; have gw := HGW.out W hSw; (try dsimp only at hSw); go_simp; try with_reducible rfl)
              case' restr16 => try simp only [Act.put, List.setIfInBounds_toArray, List.set_cons_zero, List.set_cons_succ]
              refine wpAnyH_take (i := 16) (oi := ⟨some 127, _, _, _, _, _⟩) (v := ?vr17) rfl (by kernel_rfl) (by kernel_rfl) (by kernel_rfl) (fun _ _ _ h => h) (Or.inl ⟨by kernel_rfl, ?hyr17⟩) (by assumption) ?restr17
              case hyr17 => (intro W hSw; (try dsimp only at hSw); go_simp; try with_reducible rfl)
              case' restr17 => try simp only [Act.put, List.setIfInBounds_toArray, List.set_cons_zero, List.set_cons_succ]
              refine wpAnyH_take (i := 17) (oi := ⟨some 128, _, _, _, _, _⟩) (v := ?vr18) rfl (by kernel_rfl) (by kernel_rfl) (by kernel_rfl) (fun _ _ _ h => h) (Or.inl ⟨by kernel_rfl, ?hyr18⟩) (by assumption) ?restr18
              case hyr18 => (intro W hSw; (try dsimp only at hSw); go_simp; try with_reducible rfl)
              case' restr18 => try simp only [Act.put, List.setIfInBounds_toArray, List.set_cons_zero, List.set_cons_succ]
              refine wpAnyH_take (i := 18) (oi := ⟨some 129, _, _, _, _, _⟩) (v := ?vr19) rfl (by kernel_rfl) (by kernel_rfl) (by kernel_rfl) (fun _ _ _ h => h) (Or.inl ⟨by kernel_rfl, ?hyr19⟩) (by assumption) ?restr19
              case hyr19 => (intro W hSw; (try dsimp only at hSw); go_simp; try with_reducible rfl)
              case' restr19 => try simp only [Act.put, List.setIfInBounds_toArray, List.set_cons_zero, List.set_cons_succ]
              refine wpAnyH_take (i := 19) (oi := ⟨some 130, _, _, _, _, _⟩) (v := ?vr20) rfl (by kernel_rfl) (by kernel_rfl) (by kernel_rfl) (fun _ _ _ h => h) (Or.inl ⟨by kernel_rfl, ?hyr20⟩) (by assumption) ?restr20
              case hyr20 => (intro W hSw; (try dsimp only at hSw); go_simp; try with_reducible rfl)
              case' restr20 => try simp only [Act.put, List.setIfInBounds_toArray, List.set_cons_zero, List.set_cons_succ]
              refine wpAnyH_take (i := 20) (oi := ⟨some 131, _, _, _, _, _⟩) (v := ?vr21) rfl (by kernel_rfl) (by kernel_rfl) (by kernel_rfl) (fun _ _ _ h => h) (Or.inl ⟨by kernel_rfl, ?hyr21⟩) (by assumption) ?restr21
              case hyr21 => (intro W hSw; (try dsimp only at hSw); go_simp; try with_reducible rfl)
              case' restr21 => try simp only [Act.put, List.setIfInBounds_toArray, List.set_cons_zero, List.set_cons_succ]
              refine wpAnyH_take (i := 21) (oi := ⟨some 132, _, _, _, _, _⟩) (v := ?vr22) rfl (by kernel_rfl) (by kernel_rfl) (by kernel_rfl) (fun _ _ _ h => h) (Or.inl ⟨by kernel_rfl, ?hyr22⟩) (by assumption) ?restr22
              case hyr22 => (intro W hSw; obtain ⟨g0, g1, g2, g3⟩ := HB.out W hSw; (try dsimp only at hSw); go_simp; try with_reducible rfl)
              case' restr22 => try simp only [Act.put, List.setIfInBounds_toArray, List.set_cons_zero, List.set_cons_succ]
              refine wpAnyH_take (i := 22) (oi := ⟨some 133, _, _, _, _, _⟩) (v := ?vr23) rfl (by kernel_rfl) (by kernel_rfl) (by kernel_rfl) (fun _ _ _ h => h) (Or.inl ⟨by kernel_rfl, ?hyr23⟩) (by assumption) ?restr23
              case hyr23 => (intro W hSw; (try dsimp only at hSw); go_simp; try with_reducible rfl)
              case' restr23 => try simp only [Act.put, List.setIfInBounds_toArray, List.set_cons_zero, List.set_cons_succ]
              refine wpAnyH_take (i := 23) (oi := ⟨some 134, _, _, _, _, _⟩) (v := ?vr24) rfl (by kernel_rfl) (by kernel_rfl) (by kernel_rfl) (fun _ _ _ h => h) (Or.inl ⟨by kernel_rfl, ?hyr24⟩) (by assumption) ?restr24
              case hyr24 => (intro W hSw; (try dsimp only at hSw); go_simp; try with_reducible rfl)
              case' restr24 => try simp only [Act.put, List.setIfInBounds_toArray, List.set_cons_zero, List.set_cons_succ]
              refine wpAnyH_take (i := 24) (oi := ⟨some 135, _, _, _, _, _⟩) (v := ?vr25) rfl (by kernel_rfl) (by kernel_rfl) (by kernel_rfl) (fun _ _ _ h => h) (Or.inl ⟨by kernel_rfl, ?hyr25⟩) (by assumption) ?restr25
              case hyr25 => (intro W hSw; (try dsimp only at hSw); go_simp; try with_reducible rfl)
              case' restr25 => try simp only [Act.put, List.setIfInBounds_toArray, List.set_cons_zero, List.set_cons_succ]
              refine wpAnyH_take (i := 25) (oi := ⟨some 136, _, _, _, _, _⟩) (v := ?vr26) rfl (by kernel_rfl) (by kernel_rfl) (by kernel_rfl) (fun _ _ _ h => h) (Or.inl ⟨by kernel_rfl, ?hyr26⟩) (by assumption) ?restr26
              case hyr26 => (intro W hSw; (try dsimp only at hSw); go_simp; try with_reducible rfl)
              case' restr26 => try simp only [Act.put, List.setIfInBounds_toArray, List.set_cons_zero, List.set_cons_succ]
              refine wpAnyH_take (i := 26) (oi := ⟨some 137, _, _, _, _, _⟩) (v := ?vr27) rfl (by kernel_rfl) (by kernel_rfl) (by kernel_rfl) (fun _ _ _ h => h) (Or.inl ⟨by kernel_rfl, ?hyr27⟩) (by assumption) ?restr27
              case hyr27 => (intro W hSw; (try dsimp only at hSw); go_simp; try with_reducible rfl)
              case' restr27 => try simp only [Act.put, List.setIfInBounds_toArray, List.set_cons_zero, List.set_cons_succ]
              refine wpAnyH_take (i := 27) (oi := ⟨some 138, _, _, _, _, _⟩) (v := ?vr28) rfl (by kernel_rfl) (by kernel_rfl) (by kernel_rfl) (fun _ _ _ h => h) (Or.inl ⟨by kernel_rfl, ?hyr28⟩) (by assumption) ?restr28
              case hyr28 => (intro W hSw; (try dsimp only at hSw); go_simp; try with_reducible rfl)
              case' restr28 => try simp only [Act.put, List.setIfInBounds_toArray, List.set_cons_zero, List.set_cons_succ]
              refine wpAnyH_take (i := 28) (oi := ⟨some 139, _, _, _, _, _⟩) (v := ?vr29) rfl (by kernel_rfl) (by kernel_rfl) (by kernel_rfl) (fun _ _ _ h => h) (Or.inl ⟨by kernel_rfl, ?hyr29⟩) (by assumption) ?restr29
              case hyr29 => (intro W hSw; (try dsimp only at hSw); go_simp; try with_reducible rfl)
              case' restr29 => try simp only [Act.put, List.setIfInBounds_toArray, List.set_cons_zero, List.set_cons_succ]
              refine wpAnyH_take (i := 29) (oi := ⟨some 140, _, _, _, _, _⟩) (v := ?vr30) rfl (by kernel_rfl) (by kernel_rfl) (by kernel_rfl) (fun _ _ _ h => h) (Or.inl ⟨by kernel_rfl, ?hyr30⟩) (by assumption) ?restr30
              case hyr30 => (intro W hSw; obtain ⟨g0, g1, g2, g3⟩ := HB.out W hSw; (try dsimp only at hSw); go_simp; try with_reducible rfl)
              case' restr30 => try simp only [Act.put, List.setIfInBounds_toArray, List.set_cons_zero, List.set_cons_succ]
              refine wpAnyH_take (i := 30) (oi := ⟨some 141, _, _, _, _, _⟩) (v := ?vr31) rfl (by kernel_rfl) (by kernel_rfl) (by kernel_rfl) (fun _ _ _ h => h) (Or.inl ⟨by kernel_rfl, ?hyr31⟩) (by assumption) ?restr31
              case hyr31 => (intro W hSw; (try dsimp only at hSw); go_simp; try with_reducible rfl)
              case' restr31 => try simp only [Act.put, List.setIfInBounds_toArray, List.set_cons_zero, List.set_cons_succ]
              refine wpAnyH_take (i := 31) (oi := ⟨some 142, _, _, _, _, _⟩) (v := ?vr32) rfl (by kernel_rfl) (by kernel_rfl) (by kernel_rfl) (fun _ _ _ h => h) (Or.inl ⟨by kernel_rfl, ?hyr32⟩) (by assumption) ?restr32
              case hyr32 => (intro W hSw; (try dsimp only at hSw); go_simp; try with_reducible rfl)
              case' restr32 => try simp only [Act.put, List.setIfInBounds_toArray, List.set_cons_zero, List.set_cons_succ]
              refine wpAnyH_take (i := 32) (oi := ⟨some 143, _, _, _, _, _⟩) (v := ?vr33) rfl (by kernel_rfl) (by kernel_rfl) (by kernel_rfl) (fun _ _ _ h => h) (Or.inl ⟨by kernel_rfl, ?hyr33⟩) (by assumption) ?restr33
              case hyr33 => (intro W hSw; (try dsimp only at hSw); go_simp; try with_reducible rfl)
              case' restr33 => try simp only [Act.put, List.setIfInBounds_toArray, List.set_cons_zero, List.set_cons_succ]
              refine wpAnyH_take (i := 33) (oi := ⟨some 144, _, _, _, _, _⟩) (v := ?vr34) rfl (by kernel_rfl) (by kernel_rfl) (by kernel_rfl) (fun _ _ _ h => h) (Or.inl ⟨by kernel_rfl, ?hyr34⟩) (by assumption) ?restr34
              case hyr34 => (intro W hSw; have gw := HGW.out W hSw; (try dsimp only at hSw); go_simp; try with_reducible rfl)
              case' restr34 => try simp only [Act.put, List.setIfInBounds_toArray, List.set_cons_zero, List.set_cons_succ]
              refine wpAnyH_take (i := 34) (oi := ⟨some 145, _, _, _, _, _⟩) (v := ?vr35) rfl (by kernel_rfl) (by kernel_rfl) (by kernel_rfl) (fun _ _ _ h => h) (Or.inl ⟨by kernel_rfl, ?hyr35⟩) (by assumption) ?restr35
              case hyr35 => (intro W hSw; (try dsimp only at hSw); go_simp; try with_reducible rfl)
              case' restr35 => try simp only [Act.put, List.setIfInBounds_toArray, List.set_cons_zero, List.set_cons_succ]
              refine wpAnyH_take (i := 35) (oi := ⟨some 146, _, _, _, _, _⟩) (v := ?vr36) rfl (by kernel_rfl) (by kernel_rfl) (by kernel_rfl) (fun _ _ _ h => h) (Or.inl ⟨by kernel_rfl, ?hyr36⟩) (by assumption) ?restr36
              case hyr36 => (intro W hSw; (try dsimp only at hSw); go_simp; try with_reducible rfl)
              case' restr36 => try simp only [Act.put, List.setIfInBounds_toArray, List.set_cons_zero, List.set_cons_succ]
              refine wpAnyH_take (i := 36) (oi := ⟨some 147, _, _, _, _, _⟩) (v := ?vr37) rfl (by kernel_rfl) (by kernel_rfl) (by kernel_rfl) (fun _ _ _ h => h) (Or.inl ⟨by kernel_rfl, ?hyr37⟩) (by assumption) ?restr37
              case hyr37 => (intro W hSw; (try dsimp only at hSw); go_simp; try with_reducible rfl)
              case' restr37 => try simp only [Act.put, List.setIfInBounds_toArray, List.set_cons_zero, List.set_cons_succ]
              refine wpAnyH_take (i := 37) (oi := ⟨some 148, _, _, _, _, _⟩) (v := ?vr38) rfl (by kernel_rfl) (by kernel_rfl) (by kernel_rfl) (fun _ _ _ h => h) (Or.inl ⟨by kernel_rfl, ?hyr38⟩) (by assumption) ?restr38
              case hyr38 => (intro W hSw; (try dsimp only at hSw); go_simp; try with_reducible rfl)
              case' restr38 => try simp only [Act.put, List.setIfInBounds_toArray, List.set_cons_zero, List.set_cons_succ]
              refine wpAnyH_take (i := 38) (oi := ⟨some 149, _, _, _, _, _⟩) (v := undef) rfl (by kernel_rfl) (by kernel_rfl) (by kernel_rfl) (fun _ _ _ h => h) (Or.inr ⟨by kernel_rfl, rfl⟩) (by assumption) ?restr39
              case' restr39 => try simp only [Act.put, List.setIfInBounds_toArray, List.set_cons_zero, List.set_cons_succ]
              refine wpAnyH_take (i := 39) (oi := ⟨some 150, _, _, _, _, _⟩) (v := undef) rfl (by kernel_rfl) (by kernel_rfl) (by kernel_rfl) (fun _ _ _ h => h) (Or.inr ⟨by kernel_rfl, rfl⟩) (by assumption) ?restr40
              case' restr40 => try simp only [Act.put, List.setIfInBounds_toArray, List.set_cons_zero, List.set_cons_succ]
              refine wpAnyH_take (i := 40) (oi := ⟨some 151, _, _, _, _, _⟩) (v := undef) rfl (by kernel_rfl) (by kernel_rfl) (by kernel_rfl) (fun _ _ _ h => h) (Or.inr ⟨by kernel_rfl, rfl⟩) (by assumption) ?restr41
              case' restr41 => try simp only [Act.put, List.setIfInBounds_toArray, List.set_cons_zero, List.set_cons_succ]
              refine wpAnyH_take (i := 41) (oi := ⟨some 152, _, _, _, _, _⟩) (v := undef) rfl (by kernel_rfl) (by kernel_rfl) (by kernel_rfl) (fun _ _ _ h => h) (Or.inr ⟨by kernel_rfl, rfl⟩) (by assumption) ?restr42
              case' restr42 => try simp only [Act.put, List.setIfInBounds_toArray, List.set_cons_zero, List.set_cons_succ]
              refine wpAnyH_take (i := 42) (oi := ⟨some 153, _, _, _, _, _⟩) (v := undef) rfl (by kernel_rfl) (by kernel_rfl) (by kernel_rfl) (fun _ _ _ h => h) (Or.inr ⟨by kernel_rfl, rfl⟩) (by assumption) ?restr43
              case' restr43 => try simp only [Act.put, List.setIfInBounds_toArray, List.set_cons_zero, List.set_cons_succ]
              refine wpAnyH_take (i := 43) (oi := ⟨some 154, _, _, _, _, _⟩) (v := undef) rfl (by kernel_rfl) (by kernel_rfl) (by kernel_rfl) (fun _ _ _ h => h) (Or.inr ⟨by kernel_rfl, rfl⟩) (by assumption) ?restr44
              case' restr44 => try simp only [Act.put, List.setIfInBounds_toArray, List.set_cons_zero, List.set_cons_succ]
              refine wpAnyH_take (i := 44) (oi := ⟨some 155, _, _, _, _, _⟩) (v := undef) rfl (by kernel_rfl) (by kernel_rfl) (by kernel_rfl) (fun _ _ _ h => h) (Or.inr ⟨by kernel_rfl, rfl⟩) (by assumption) ?restr45
              case' restr45 => try simp only [Act.put, List.setIfInBounds_toArray, List.set_cons_zero, List.set_cons_succ]
              refine wpAnyH_take (i := 45) (oi := ⟨some 156, _, _, _, _, _⟩) (v := undef) rfl (by kernel_rfl) (by kernel_rfl) (by kernel_rfl) (fun _ _ _ h => h) (Or.inr ⟨by kernel_rfl, rfl⟩) (by assumption) ?restr46
              case' restr46 => try simp only [Act.put, List.setIfInBounds_toArray, List.set_cons_zero, List.set_cons_succ]
              refine wpAnyH_take (i := 46) (oi := ⟨some 157, _, _, _, _, _⟩) (v := undef) rfl (by kernel_rfl) (by kernel_rfl) (by kernel_rfl) (fun _ _ _ h => h) (Or.inr ⟨by kernel_rfl, rfl⟩) (by assumption) ?restr47
              case' restr47 => try simp only [Act.put, List.setIfInBounds_toArray, List.set_cons_zero, List.set_cons_succ]
              refine wpAnyH_take (i := 47) (oi := ⟨some 158, _, _, _, _, _⟩) (v := undef) rfl (by kernel_rfl) (by kernel_rfl) (by kernel_rfl) (fun _ _ _ h => h) (Or.inr ⟨by kernel_rfl, rfl⟩) (by assumption) ?restr48
              case' restr48 => try simp only [Act.put, List.setIfInBounds_toArray, List.set_cons_zero, List.set_cons_succ]
              refine wpAnyH_take (i := 48) (oi := ⟨some 159, _, _, _, _, _⟩) (v := undef) rfl (by kernel_rfl) (by kernel_rfl) (by kernel_rfl) (fun _ _ _ h => h) (Or.inr ⟨by kernel_rfl, rfl⟩) (by assumption) ?restr49
              case' restr49 => try simp only [Act.put, List.setIfInBounds_toArray, List.set_cons_zero, List.set_cons_succ]
              refine wpAnyH_take (i := 49) (oi := ⟨some 160, _, _, _, _, _⟩) (v := ?vr50) rfl (by kernel_rfl) (by kernel_rfl) (by kernel_rfl) (fun _ _ _ h => h) (Or.inl ⟨by kernel_rfl, ?hyr50⟩) (by assumption) ?restr50
              case hyr50 => (intro W hSw; (try dsimp only at hSw); go_simp; try with_reducible rfl)
              case' restr50 => try simp only [Act.put, List.setIfInBounds_toArray, List.set_cons_zero, List.set_cons_succ]
              refine wpAnyH_done (by kernel_rfl) ?_ _
              try clear hrem hquo
              go_wp2
              go_roundw
              case rel => exact ⟨k + 1, by omega, by go_num, by rw [HSU.out, HCV.out]; rfl, hbi.trans (hS1.mono hbi.size)⟩
              case measure => simp [intOf]; omega
          by_cases h3 : (Y : Int) ≤ q.y1
          rotate_left
          · as_aux_lemma =>
              have d0 : decide (q.x0 ≤ (X : Int)) = true := decide_eq_true h0
              have d1 : decide ((X : Int) ≤ q.x1) = true := decide_eq_true h1
              have d2 : decide (q.y0 ≤ (Y : Int)) = true := decide_eq_true h2
              have d3 : decide ((Y : Int) ≤ q.y1) = false := decide_eq_false h3
              have HCV : Hid (coverB q X Y = false) := Lib.hid (coverB_no.2 (by omega))
              clear h0 h1 h2 h3
              go_wp2_with fail
              refine wp_region_held_drew (S := fun W : World => Below wr.heap.size wr W) (by kernel_rfl) hS1 (fun hHeld => ?_)
              clear hHeld
              generalize wr.drew = wzs at *
              refine wpAnyH_take (i := 0) (oi := ⟨some 111, _, _, _, _, _⟩) (v := ?vs1) rfl (by kernel_rfl) (by kernel_rfl) (by kernel_rfl) (fun _ _ _ h => h) (Or.inl ⟨by kernel_rfl, ?hys1⟩) (by assumption) ?rests1
              case hys1 => (intro W hSw; (try dsimp only at hSw); go_simp; try with_reducible rfl)
              case' rests1 => try simp only [Act.put, List.setIfInBounds_toArray, List.set_cons_zero, List.set_cons_succ]
              refine wpAnyH_take (i := 1) (oi := ⟨some 112, _, _, _, _, _⟩) (v := ?vs2) rfl (by kernel_rfl) (by kernel_rfl) (by kernel_rfl) (fun _ _ _ h => h) (Or.inl ⟨by kernel_rfl, ?hys2⟩) (by assumption) ?rests2
              case hys2 => (intro W hSw; (try dsimp only at hSw); go_simp; try with_reducible rfl)
              case' rests2 => try simp only [Act.put, List.setIfInBounds_toArray, List.set_cons_zero, List.set_cons_succ]
              refine wpAnyH_take (i := 2) (oi := ⟨some 113, _, _, _, _, _⟩) (v := ?vs3) rfl (by kernel_rfl) (by kernel_rfl) (by kernel_rfl) (fun _ _ _ h => h) (Or.inl ⟨by kernel_rfl, ?hys3⟩) (by assumption) ?rests3
              case hys3 => (intro W hSw; (try dsimp only at hSw); go_simp; try with_reducible rfl)
              case' rests3 => try simp only [Act.put, List.setIfInBounds_toArray, List.set_cons_zero, List.set_cons_succ]
              refine wpAnyH_take (i := 3) (oi := ⟨some 114, _, _, _, _, _⟩) (v := ?vs4) rfl (by kernel_rfl) (by kernel_rfl) (by kernel_rfl) (fun _ _ _ h => h) (Or.inl ⟨by kernel_rfl, ?hys4⟩) (by assumption) ?rests4
              case hys4 => (intro W hSw; (try dsimp only at hSw); go_simp; try with_reducible rfl)
              case' rests4 => try simp only [Act.put, List.setIfInBounds_toArray, List.set_cons_zero, List.set_cons_succ]
              refine wpAnyH_take (i := 4) (oi := ⟨some 115, _, _, _, _, _⟩) (v := ?vs5) rfl (by kernel_rfl) (by kernel_rfl) (by kernel_rfl) (fun _ _ _ h => h) (Or.inl ⟨by kernel_rfl, ?hys5⟩) (by assumption) ?rests5
              case hys5 => (intro W hSw; obtain ⟨g0, g1, g2, g3⟩ := HB.out W hSw; (try dsimp only at hSw); go_simp; try with_reducible rfl)
              case' rests5 => try simp only [Act.put, List.setIfInBounds_toArray, List.set_cons_zero, List.set_cons_succ]
              refine wpAnyH_take (i := 5) (oi := ⟨some 116, _, _, _, _, _⟩) (v := ?vs6) rfl (by kernel_rfl) (by kernel_rfl) (by kernel_rfl) (fun _ _ _ h => h) (Or.inl ⟨by kernel_rfl, ?hys6⟩) (by assumption) ?rests6
              case hys6 => (intro W hSw; (try dsimp only at hSw); go_simp; try with_reducible rfl)
              case' rests6 => try simp only [Act.put, List.setIfInBounds_toArray, List.set_cons_zero, List.set_cons_succ]
              refine wpAnyH_take (i := 6) (oi := ⟨some 117, _, _, _, _, _⟩) (v := ?vs7) rfl (by kernel_rfl) (by kernel_rfl) (by kernel_rfl) (fun _ _ _ h => h) (Or.inl ⟨by kernel_rfl, ?hys7⟩) (by assumption) ?rests7
              case hys7 => (intro W hSw; (try dsimp only at hSw); go_simp; try with_reducible rfl)
              case' rests7 => try simp only [Act.put, List.setIfInBounds_toArray, List.set_cons_zero, List.set_cons_succ]
              refine wpAnyH_take (i := 7) (oi := ⟨some 118, _, _, _, _, _⟩) (v := ?vs8) rfl (by kernel_rfl) (by kernel_rfl) (by kernel_rfl) (fun _ _ _ h => h) (Or.inl ⟨by kernel_rfl, ?hys8⟩) (by assumption) ?rests8
              case hys8 => (intro W hSw; (try dsimp only at hSw); go_simp; try with_reducible rfl)
              case' rests8 => try simp only [Act.put, List.setIfInBounds_toArray, List.set_cons_zero, List.set_cons_succ]
              refine wpAnyH_take (i := 8) (oi := ⟨some 119, _, _, _, _, _⟩) (v := ?vs9) rfl (by kernel_rfl) (by kernel_rfl) (by kernel_rfl) (fun _ _ _ h => h) (Or.inl ⟨by kernel_rfl, ?hys9⟩) (by assumption) ?rests9
              case hys9 => (intro W hSw; have gw := HGW.out W hSw; (try dsimp only at hSw); go_simp; try with_reducible rfl)
              case' rests9 => try simp only [Act.put, List.setIfInBounds_toArray, List.set_cons_zero, List.set_cons_succ]
              refine wpAnyH_take (i := 9) (oi := ⟨some 120, _, _, _, _, _⟩) (v := ?vs10) rfl (by kernel_rfl) (by kernel_rfl) (by kernel_rfl) (fun _ _ _ h => h) (Or.inl ⟨by kernel_rfl, ?hys10⟩) (by assumption) ?rests10
              case hys10 => (intro W hSw; (try dsimp only at hSw); go_simp; try with_reducible rfl)
              case' rests10 => try simp only [Act.put, List.setIfInBounds_toArray, List.set_cons_zero, List.set_cons_succ]
              refine wpAnyH_take (i := 10) (oi := ⟨some 121, _, _, _, _, _⟩) (v := ?vs11) rfl (by kernel_rfl) (by kernel_rfl) (by kernel_rfl) (fun _ _ _ h => h) (Or.inl ⟨by kernel_rfl, ?hys11⟩) (by assumption) ?rests11
              case hys11 => (intro W hSw; (try dsimp only at hSw); go_simp; try with_reducible rfl)
              case' rests11 => try simp only [Act.put, List.setIfInBounds_toArray, List.set_cons_zero, List.set_cons_succ]
              refine wpAnyH_take (i := 11) (oi := ⟨some 122, _, _, _, _, _⟩) (v := ?vs12) rfl (by kernel_rfl) (by kernel_rfl) (by kernel_rfl) (fun _ _ _ h => h) (Or.inl ⟨by kernel_rfl, ?hys12⟩) (by assumption) ?rests12
              case hys12 => (intro W hSw; (try dsimp only at hSw); go_simp; try with_reducible rfl)
              case' rests12 => try simp only [Act.put, List.setIfInBounds_toArray, List.set_cons_zero, List.set_cons_succ]
              refine wpAnyH_take (i := 12) (oi := ⟨some 123, _, _, _, _, _⟩) (v := ?vs13) rfl (by kernel_rfl) (by kernel_rfl) (by kernel_rfl) (fun _ _ _ h => h) (Or.inl ⟨by kernel_rfl, ?hys13⟩) (by assumption) ?rests13
              case hys13 => (intro W hSw; (try dsimp only at hSw); go_simp; try with_reducible rfl)
              case' rests13 => try simp only [Act.put, List.setIfInBounds_toArray, List.set_cons_zero, List.set_cons_succ]
              refine wpAnyH_take (i := 13) (oi := ⟨some 124, _, _, _, _, _⟩) (v := ?vs14) rfl (by kernel_rfl) (by kernel_rfl) (by kernel_rfl) (fun _ _ _ h => h) (Or.inl ⟨by kernel_rfl, ?hys14⟩) (by assumption) ?rests14
              case hys14 => (intro W hSw; (try dsimp only at hSw); go_simp; try with_reducible rfl)
              case' rests14 => try simp only [Act.put, List.setIfInBounds_toArray, List.set_cons_zero, List.set_cons_succ]
              refine wpAnyH_take (i := 14) (oi := ⟨some 125, _, _, _, _, _⟩) (v := ?vs15) rfl (by kernel_rfl) (by kernel_rfl) (by kernel_rfl) (fun _ _ _ h => h) (Or.inl ⟨by kernel_rfl, ?hys15⟩) (by assumption) ?rests15
              case hys15 => (intro W hSw; (try dsimp only at hSw); go_simp; try with_reducible rfl)
              case' rests15 => try simp only [Act.put, List.setIfInBounds_toArray, List.set_cons_zero, List.set_cons_succ]
              refine wpAnyH_take (i := 15) (oi := ⟨some 126, _, _, _, _, _⟩) (v := ?vs16) rfl (by kernel_rfl) (by kernel_rfl) (by kernel_rfl) (fun _ _ _ h => h) (Or.inl ⟨by kernel_rfl, ?hys16⟩) (by assumption) ?rests16
              case hys16 => (intro W hSw; have gw := HGW.out W hSw; (try dsimp only at hSw); go_simp; try with_reducible rfl)
              case' rests16 => try simp only [Act.put, List.setIfInBounds_toArray, List.set_cons_zero, List.set_cons_succ]
              refine wpAnyH_take (i := 16) (oi := ⟨some 127, _, _, _, _, _⟩) (v := ?vs17) rfl (by kernel_rfl) (by kernel_rfl) (by kernel_rfl) (fun _ _ _ h => h) (Or.inl ⟨by kernel_rfl, ?hys17⟩) (by assumption) ?rests17
              case hys17 => (intro W hSw; (try dsimp only at hSw); go_simp; try with_reducible rfl)
              case' rests17 => try simp only [Act.put, List.setIfInBounds_toArray, List.set_cons_zero, List.set_cons_succ]
              refine wpAnyH_take (i := 17) (oi := ⟨some 128, _, _, _, _, _⟩) (v := ?vs18) rfl (by kernel_rfl) (by kernel_rfl) (by kernel_rfl) (fun _ _ _ h => h) (Or.inl ⟨by kernel_rfl, ?hys18⟩) (by assumption) ?rests18
              case hys18 => (intro W hSw; (try dsimp only at hSw); go_simp; try with_reducible rfl)
              case' rests18 => try simp only [Act.put, List.setIfInBounds_toArray, List.set_cons_zero, List.set_cons_succ]
              refine wpAnyH_take (i := 18) (oi := ⟨some 129, _, _, _, _, _⟩) (v := ?vs19) rfl (by kernel_rfl) (by kernel_rfl) (by kernel_rfl) (fun _ _ _ h => h) (Or.inl ⟨by kernel_rfl, ?hys19⟩) (by assumption) ?rests19
              case hys19 => (intro W hSw; (try dsimp only at hSw); go_simp; try with_reducible rfl)
              case' rests19 => try simp only [Act.put, List.setIfInBounds_toArray, List.set_cons_zero, List.set_cons_succ]
              refine wpAnyH_take (i := 19) (oi := ⟨some 130, _, _, _, _, _⟩) (v := ?vs20) rfl (by kernel_rfl) (by kernel_rfl) (by kernel_rfl) (fun _ _ _ h => h) (Or.inl ⟨by kernel_rfl, ?hys20⟩) (by assumption) ?rests20
              case hys20 => (intro W hSw; (try dsimp only at hSw); go_simp; try with_reducible rfl)
              case' rests20 => try simp only [Act.put, List.setIfInBounds_toArray, List.set_cons_zero, List.set_cons_succ]
              refine wpAnyH_take (i := 20) (oi := ⟨some 131, _, _, _, _, _⟩) (v := ?vs21) rfl (by kernel_rfl) (by kernel_rfl) (by kernel_rfl) (fun _ _ _ h => h) (Or.inl ⟨by kernel_rfl, ?hys21⟩) (by assumption) ?rests21
              case hys21 => (intro W hSw; (try dsimp only at hSw); go_simp; try with_reducible rfl)
              case' rests21 => try simp only [Act.put, List.setIfInBounds_toArray, List.set_cons_zero, List.set_cons_succ]
              refine wpAnyH_take (i := 21) (oi := ⟨some 132, _, _, _, _, _⟩) (v := ?vs22) rfl (by kernel_rfl) (by kernel_rfl) (by kernel_rfl) (fun _ _ _ h => h) (Or.inl ⟨by kernel_rfl, ?hys22⟩) (by assumption) ?rests22
              case hys22 => (intro W hSw; obtain ⟨g0, g1, g2, g3⟩ := HB.out W hSw; (try dsimp only at hSw); go_simp; try with_reducible rfl)
              case' rests22 => try simp only [Act.put, List.setIfInBounds_toArray, List.set_cons_zero, List.set_cons_succ]
              refine wpAnyH_take (i := 22) (oi := ⟨some 133, _, _, _, _, _⟩) (v := ?vs23) rfl (by kernel_rfl) (by kernel_rfl) (by kernel_rfl) (fun _ _ _ h => h) (Or.inl ⟨by kernel_rfl, ?hys23⟩) (by assumption) ?rests23
              case hys23 => (intro W hSw; (try dsimp only at hSw); go_simp; try with_reducible rfl)
              case' rests23 => try simp only [Act.put, List.setIfInBounds_toArray, List.set_cons_zero, List.set_cons_succ]
              refine wpAnyH_take (i := 23) (oi := ⟨some 134, _, _, _, _, _⟩) (v := ?vs24) rfl (by kernel_rfl) (by kernel_rfl) (by kernel_rfl) (fun _ _ _ h => h) (Or.inl ⟨by kernel_rfl, ?hys24⟩) (by assumption) ?rests24
              case hys24 => (intro W hSw; (try dsimp only at hSw); go_simp; try with_reducible rfl)
              case' rests24 => try simp only [Act.put, List.setIfInBounds_toArray, List.set_cons_zero, List.set_cons_succ]
              refine wpAnyH_take (i := 24) (oi := ⟨some 135, _, _, _, _, _⟩) (v := ?vs25) rfl (by kernel_rfl) (by kernel_rfl) (by kernel_rfl) (fun _ _ _ h => h) (Or.inl ⟨by kernel_rfl, ?hys25⟩) (by assumption) ?rests25
              case hys25 => (intro W hSw; (try dsimp only at hSw); go_simp; try with_reducible rfl)
              case' rests25 => try simp only [Act.put, List.setIfInBounds_toArray, List.set_cons_zero, List.set_cons_succ]
              refine wpAnyH_take (i := 25) (oi := ⟨some 136, _, _, _, _, _⟩) (v := ?vs26) rfl (by kernel_rfl) (by kernel_rfl) (by kernel_rfl) (fun _ _ _ h => h) (Or.inl ⟨by kernel_rfl, ?hys26⟩) (by assumption) ?rests26
              case hys26 => (intro W hSw; (try dsimp only at hSw); go_simp; try with_reducible rfl)
              case' rests26 => try simp only [Act.put, List.setIfInBounds_toArray, List.set_cons_zero, List.set_cons_succ]
              refine wpAnyH_take (i := 26) (oi := ⟨some 137, _, _, _, _, _⟩) (v := ?vs27) rfl (by kernel_rfl) (by kernel_rfl) (by kernel_rfl) (fun _ _ _ h => h) (Or.inl ⟨by kernel_rfl, ?hys27⟩) (by assumption) ?rests27
              case hys27 => (intro W hSw; (try dsimp only at hSw); go_simp; try with_reducible rfl)
              case' rests27 => try simp only [Act.put, List.setIfInBounds_toArray, List.set_cons_zero, List.set_cons_succ]
              refine wpAnyH_take (i := 27) (oi := ⟨some 138, _, _, _, _, _⟩) (v := ?vs28) rfl (by kernel_rfl) (by kernel_rfl) (by kernel_rfl) (fun _ _ _ h => h) (Or.inl ⟨by kernel_rfl, ?hys28⟩) (by assumption) ?rests28
              case hys28 => (intro W hSw; (try dsimp only at hSw); go_simp; try with_reducible rfl)
              case' rests28 => try simp only [Act.put, List.setIfInBounds_toArray, List.set_cons_zero, List.set_cons_succ]
              refine wpAnyH_take (i := 28) (oi := ⟨some 139, _, _, _, _, _⟩) (v := ?vs29) rfl (by kernel_rfl) (by kernel_rfl) (by kernel_rfl) (fun _ _ _ h => h) (Or.inl ⟨by kernel_rfl, ?hys29⟩) (by assumption) ?rests29
              case hys29 => (intro W hSw; (try dsimp only at hSw); go_simp; try with_reducible rfl)
              case' rests29 => try simp only [Act.put, List.setIfInBounds_toArray, List.set_cons_zero, List.set_cons_succ]
              refine wpAnyH_take (i := 29) (oi := ⟨some 140, _, _, _, _, _⟩) (v := ?vs30) rfl (by kernel_rfl) (by kernel_rfl) (by kernel_rfl) (fun _ _ _ h => h) (Or.inl ⟨by kernel_rfl, ?hys30⟩) (by assumption) ?rests30
              case hys30 => (intro W hSw; obtain ⟨g0, g1, g2, g3⟩ := HB.out W hSw; (try dsimp only at hSw); go_simp; try with_reducible rfl)
              case' rests30 => try simp only [Act.put, List.setIfInBounds_toArray, List.set_cons_zero, List.set_cons_succ]
              refine wpAnyH_take (i := 30) (oi := ⟨some 141, _, _, _, _, _⟩) (v := ?vs31) rfl (by kernel_rfl) (by kernel_rfl) (by kernel_rfl) (fun _ _ _ h => h) (Or.inl ⟨by kernel_rfl, ?hys31⟩) (by assumption) ?rests31
              case hys31 => (intro W hSw; (try dsimp only at hSw); go_simp; try with_reducible rfl)
              case' rests31 => try simp only [Act.put, List.setIfInBounds_toArray, List.set_cons_zero, List.set_cons_succ]
              refine wpAnyH_take (i := 31) (oi := ⟨some 142, _, _, _, _, _⟩) (v := ?vs32) rfl (by kernel_rfl) (by kernel_rfl) (by kernel_rfl) (fun _ _ _ h => h) (Or.inl ⟨by kernel_rfl, ?hys32⟩) (by assumption) ?rests32
              case hys32 => (intro W hSw; (try dsimp only at hSw); go_simp; try with_reducible rfl)
              case' rests32 => try simp only [Act.put, List.setIfInBounds_toArray, List.set_cons_zero, List.set_cons_succ]
              refine wpAnyH_take (i := 32) (oi := ⟨some 143, _, _, _, _, _⟩) (v := ?vs33) rfl (by kernel_rfl) (by kernel_rfl) (by kernel_rfl) (fun _ _ _ h => h) (Or.inl ⟨by kernel_rfl, ?hys33⟩) (by assumption) ?rests33
              case hys33 => (intro W hSw; (try dsimp only at hSw); go_simp; try with_reducible rfl)
              case' rests33 => try simp only [Act.put, List.setIfInBounds_toArray, List.set_cons_zero, List.set_cons_succ]
              refine wpAnyH_take (i := 33) (oi := ⟨some 144, _, _, _, _, _⟩) (v := ?vs34) rfl (by kernel_rfl) (by kernel_rfl) (by kernel_rfl) (fun _ _ _ h => h) (Or.inl ⟨by kernel_rfl, ?hys34⟩) (by assumption) ?rests34
              case hys34 => (intro W hSw; have gw := HGW.out W hSw; (try dsimp only at hSw); go_simp; try with_reducible rfl)
              case' rests34 => try simp only [Act.put, List.setIfInBounds_toArray, List.set_cons_zero, List.set_cons_succ]
              refine wpAnyH_take (i := 34) (oi := ⟨some 145, _, _, _, _, _⟩) (v := ?vs35) rfl (by kernel_rfl) (by kernel_rfl) (by kernel_rfl) (fun _ _ _ h => h) (Or.inl ⟨by kernel_rfl, ?hys35⟩) (by assumption) ?rests35
              case hys35 => (intro W hSw; (try dsimp only at hSw); go_simp; try with_reducible rfl)
              case' rests35 => try simp only [Act.put, List.setIfInBounds_toArray, List.set_cons_zero, List.set_cons_succ]
              refine wpAnyH_take (i := 35) (oi := ⟨some 146, _, _, _, _, _⟩) (v := ?vs36) rfl (by kernel_rfl) (by kernel_rfl) (by kernel_rfl) (fun _ _ _ h => h) (Or.inl ⟨by kernel_rfl, ?hys36⟩) (by assumption) ?rests36
              case hys36 => (intro W hSw; (try dsimp only at hSw); go_simp; try with_reducible rfl)
              case' rests36 => try simp only [Act.put, List.setIfInBounds_toArray, List.set_cons_zero, List.set_cons_succ]
              refine wpAnyH_take (i := 36) (oi := ⟨some 147, _, _, _, _, _⟩) (v := ?vs37) rfl (by kernel_rfl) (by kernel_rfl) (by kernel_rfl) (fun _ _ _ h => h) (Or.inl ⟨by kernel_rfl, ?hys37⟩) (by assumption) ?rests37
              case hys37 => (intro W hSw; (try dsimp only at hSw); go_simp; try with_reducible rfl)
              case' rests37 => try simp only [Act.put, List.setIfInBounds_toArray, List.set_cons_zero, List.set_cons_succ]
              refine wpAnyH_take (i := 37) (oi := ⟨some 148, _, _, _, _, _⟩) (v := ?vs38) rfl (by kernel_rfl) (by kernel_rfl) (by kernel_rfl) (fun _ _ _ h => h) (Or.inl ⟨by kernel_rfl, ?hys38⟩) (by assumption) ?rests38
              case hys38 => (intro W hSw; (try dsimp only at hSw); go_simp; try with_reducible rfl)
              case' rests38 => try simp only [Act.put, List.setIfInBounds_toArray, List.set_cons_zero, List.set_cons_succ]
              refine wpAnyH_take (i := 38) (oi := ⟨some 149, _, _, _, _, _⟩) (v := ?vs39) rfl (by kernel_rfl) (by kernel_rfl) (by kernel_rfl) (fun _ _ _ h => h) (Or.inl ⟨by kernel_rfl, ?hys39⟩) (by assumption) ?rests39
              case hys39 => (intro W hSw; (try dsimp only at hSw); go_simp; try with_reducible rfl)
              case' rests39 => try simp only [Act.put, List.setIfInBounds_toArray, List.set_cons_zero, List.set_cons_succ]
              refine wpAnyH_take (i := 39) (oi := ⟨some 150, _, _, _, _, _⟩) (v := ?vs40) rfl (by kernel_rfl) (by kernel_rfl) (by kernel_rfl) (fun _ _ _ h => h) (Or.inl ⟨by kernel_rfl, ?hys40⟩) (by assumption) ?rests40
              case hys40 => (intro W hSw; (try dsimp only at hSw); go_simp; try with_reducible rfl)
              case' rests40 => try simp only [Act.put, List.setIfInBounds_toArray, List.set_cons_zero, List.set_cons_succ]
              refine wpAnyH_take (i := 40) (oi := ⟨some 151, _, _, _, _, _⟩) (v := ?vs41) rfl (by kernel_rfl) (by kernel_rfl) (by kernel_rfl) (fun _ _ _ h => h) (Or.inl ⟨by kernel_rfl, ?hys41⟩) (by assumption) ?rests41
              case hys41 => (intro W hSw; (try dsimp only at hSw); go_simp; try with_reducible rfl)
              case' rests41 => try simp only [Act.put, List.setIfInBounds_toArray, List.set_cons_zero, List.set_cons_succ]
              refine wpAnyH_take (i := 41) (oi := ⟨some 152, _, _, _, _, _⟩) (v := ?vs42) rfl (by kernel_rfl) (by kernel_rfl) (by kernel_rfl) (fun _ _ _ h => h) (Or.inl ⟨by kernel_rfl, ?hys42⟩) (by assumption) ?rests42
              case hys42 => (intro W hSw; have gw := HGW.out W hSw; (try dsimp only at hSw); go_simp; try with_reducible rfl)
              case' rests42 => try simp only [Act.put, List.setIfInBounds_toArray, List.set_cons_zero, List.set_cons_succ]
              refine wpAnyH_take (i := 42) (oi := ⟨some 153, _, _, _, _, _⟩) (v := ?vs43) rfl (by kernel_rfl) (by kernel_rfl) (by kernel_rfl) (fun _ _ _ h => h) (Or.inl ⟨by kernel_rfl, ?hys43⟩) (by assumption) ?rests43
              case hys43 => (intro W hSw; (try dsimp only at hSw); go_simp; try with_reducible rfl)
              case' rests43 => try simp only [Act.put, List.setIfInBounds_toArray, List.set_cons_zero, List.set_cons_succ]
              refine wpAnyH_take (i := 43) (oi := ⟨some 154, _, _, _, _, _⟩) (v := ?vs44) rfl (by kernel_rfl) (by kernel_rfl) (by kernel_rfl) (fun _ _ _ h => h) (Or.inl ⟨by kernel_rfl, ?hys44⟩) (by assumption) ?rests44
              case hys44 => (intro W hSw; (try dsimp only at hSw); go_simp; try with_reducible rfl)
              case' rests44 => try simp only [Act.put, List.setIfInBounds_toArray, List.set_cons_zero, List.set_cons_succ]
              refine wpAnyH_take (i := 44) (oi := ⟨some 155, _, _, _, _, _⟩) (v := ?vs45) rfl (by kernel_rfl) (by kernel_rfl) (by kernel_rfl) (fun _ _ _ h => h) (Or.inl ⟨by kernel_rfl, ?hys45⟩) (by assumption) ?rests45
              case hys45 => (intro W hSw; (try dsimp only at hSw); go_simp; try with_reducible rfl)
              case' rests45 => try simp only [Act.put, List.setIfInBounds_toArray, List.set_cons_zero, List.set_cons_succ]
              refine wpAnyH_take (i := 45) (oi := ⟨some 156, _, _, _, _, _⟩) (v := ?vs46) rfl (by kernel_rfl) (by kernel_rfl) (by kernel_rfl) (fun _ _ _ h => h) (Or.inl ⟨by kernel_rfl, ?hys46⟩) (by assumption) ?rests46
              case hys46 => (intro W hSw; (try dsimp only at hSw); go_simp; try with_reducible rfl)
              case' rests46 => try simp only [Act.put, List.setIfInBounds_toArray, List.set_cons_zero, List.set_cons_succ]
              refine wpAnyH_take (i := 46) (oi := ⟨some 157, _, _, _, _, _⟩) (v := ?vs47) rfl (by kernel_rfl) (by kernel_rfl) (by kernel_rfl) (fun _ _ _ h => h) (Or.inl ⟨by kernel_rfl, ?hys47⟩) (by assumption) ?rests47
              case hys47 => (intro W hSw; (try dsimp only at hSw); go_simp; try with_reducible rfl)
              case' rests47 => try simp only [Act.put, List.setIfInBounds_toArray, List.set_cons_zero, List.set_cons_succ]
              refine wpAnyH_take (i := 47) (oi := ⟨some 158, _, _, _, _, _⟩) (v := ?vs48) rfl (by kernel_rfl) (by kernel_rfl) (by kernel_rfl) (fun _ _ _ h => h) (Or.inl ⟨by kernel_rfl, ?hys48⟩) (by assumption) ?rests48
              case hys48 => (intro W hSw; obtain ⟨g0, g1, g2, g3⟩ := HB.out W hSw; (try dsimp only at hSw); go_simp; try with_reducible rfl)
              case' rests48 => try simp only [Act.put, List.setIfInBounds_toArray, List.set_cons_zero, List.set_cons_succ]
              refine wpAnyH_take (i := 48) (oi := ⟨some 159, _, _, _, _, _⟩) (v := ?vs49) rfl (by kernel_rfl) (by kernel_rfl) (by kernel_rfl) (fun _ _ _ h => h) (Or.inl ⟨by kernel_rfl, ?hys49⟩) (by assumption) ?rests49
              case hys49 => (intro W hSw; (try dsimp only at hSw); go_simp; try with_reducible rfl)
              case' rests49 => try simp only [Act.put, List.setIfInBounds_toArray, List.set_cons_zero, List.set_cons_succ]
              refine wpAnyH_take (i := 49) (oi := ⟨some 160, _, _, _, _, _⟩) (v := ?vs50) rfl (by kernel_rfl) (by kernel_rfl) (by kernel_rfl) (fun _ _ _ h => h) (Or.inl ⟨by kernel_rfl, ?hys50⟩) (by assumption) ?rests50
              case hys50 => (intro W hSw; (try dsimp only at hSw); go_simp; try with_reducible rfl)
              case' rests50 => try simp only [Act.put, List.setIfInBounds_toArray, List.set_cons_zero, List.set_cons_succ]
              refine wpAnyH_done (by kernel_rfl) ?_ _
              try clear hrem hquo
              go_wp2
              go_roundw
              case rel => exact ⟨k + 1, by omega, by go_num, by rw [HSU.out, HCV.out]; rfl, hbi.trans (hS1.mono hbi.size)⟩
              case measure => simp [intOf]; omega
          as_aux_lemma =>
            have d0 : decide (q.x0 ≤ (X : Int)) = true := decide_eq_true h0
            have d1 : decide ((X : Int) ≤ q.x1) = true := decide_eq_true h1
            have d2 : decide (q.y0 ≤ (Y : Int)) = true := decide_eq_true h2
            have d3 : decide ((Y : Int) ≤ q.y1) = true := decide_eq_true h3
            have HCV : Hid (coverB q X Y = true) := Lib.hid (coverB_iff.2 ⟨h0, h1, h2, h3⟩)
            clear h0 h1 h2 h3
            go_wp2_with fail
            refine wp_region_held_drew (S := fun W : World => Below wr.heap.size wr W) (by kernel_rfl) hS1 (fun hHeld => ?_)
            clear hHeld
            generalize wr.drew = wzt at *
            refine wpAnyH_take (i := 0) (oi := ⟨some 111, _, _, _, _, _⟩) (v := ?vt1) rfl (by kernel_rfl) (by kernel_rfl) (by kernel_rfl) (fun _ _ _ h => h) (Or.inl ⟨by kernel_rfl, ?hyt1⟩) (by assumption) ?restt1
            case hyt1 => (intro W hSw; (try dsimp only at hSw); go_simp; try with_reducible rfl)
            case' restt1 => try simp only [Act.put, List.setIfInBounds_toArray, List.set_cons_zero, List.set_cons_succ]
            refine wpAnyH_take (i := 1) (oi := ⟨some 112, _, _, _, _, _⟩) (v := ?vt2) rfl (by kernel_rfl) (by kernel_rfl) (by kernel_rfl) (fun _ _ _ h => h) (Or.inl ⟨by kernel_rfl, ?hyt2⟩) (by assumption) ?restt2
            case hyt2 => (intro W hSw; (try dsimp only at hSw); go_simp; try with_reducible rfl)
            case' restt2 => try simp only [Act.put, List.setIfInBounds_toArray, List.set_cons_zero, List.set_cons_succ]
            refine wpAnyH_take (i := 2) (oi := ⟨some 113, _, _, _, _, _⟩) (v := ?vt3) rfl (by kernel_rfl) (by kernel_rfl) (by kernel_rfl) (fun _ _ _ h => h) (Or.inl ⟨by kernel_rfl, ?hyt3⟩) (by assumption) ?restt3
            case hyt3 => (intro W hSw; (try dsimp only at hSw); go_simp; try with_reducible rfl)
            case' restt3 => try simp only [Act.put, List.setIfInBounds_toArray, List.set_cons_zero, List.set_cons_succ]
            refine wpAnyH_take (i := 3) (oi := ⟨some 114, _, _, _, _, _⟩) (v := ?vt4) rfl (by kernel_rfl) (by kernel_rfl) (by kernel_rfl) (fun _ _ _ h => h) (Or.inl ⟨by kernel_rfl, ?hyt4⟩) (by assumption) ?restt4
            case hyt4 => (intro W hSw; (try dsimp only at hSw); go_simp; try with_reducible rfl)
            case' restt4 => try simp only [Act.put, List.setIfInBounds_toArray, List.set_cons_zero, List.set_cons_succ]
            refine wpAnyH_take (i := 4) (oi := ⟨some 115, _, _, _, _, _⟩) (v := ?vt5) rfl (by kernel_rfl) (by kernel_rfl) (by kernel_rfl) (fun _ _ _ h => h) (Or.inl ⟨by kernel_rfl, ?hyt5⟩) (by assumption) ?restt5
            case hyt5 => (intro W hSw; obtain ⟨g0, g1, g2, g3⟩ := HB.out W hSw; (try dsimp only at hSw); go_simp; try with_reducible rfl)
            case' restt5 => try simp only [Act.put, List.setIfInBounds_toArray, List.set_cons_zero, List.set_cons_succ]
            refine wpAnyH_take (i := 5) (oi := ⟨some 116, _, _, _, _, _⟩) (v := ?vt6) rfl (by kernel_rfl) (by kernel_rfl) (by kernel_rfl) (fun _ _ _ h => h) (Or.inl ⟨by kernel_rfl, ?hyt6⟩) (by assumption) ?restt6
            case hyt6 => (intro W hSw; (try dsimp only at hSw); go_simp; try with_reducible rfl)
            case' restt6 => try simp only [Act.put, List.setIfInBounds_toArray, List.set_cons_zero, List.set_cons_succ]
            refine wpAnyH_take (i := 6) (oi := ⟨some 117, _, _, _, _, _⟩) (v := ?vt7) rfl (by kernel_rfl) (by kernel_rfl) (by kernel_rfl) (fun _ _ _ h => h) (Or.inl ⟨by kernel_rfl, ?hyt7⟩) (by assumption) ?restt7
            case hyt7 => (intro W hSw; (try dsimp only at hSw); go_simp; try with_reducible rfl)
            case' restt7 => try simp only [Act.put, List.setIfInBounds_toArray, List.set_cons_zero, List.set_cons_succ]
            refine wpAnyH_take (i := 7) (oi := ⟨some 118, _, _, _, _, _⟩) (v := ?vt8) rfl (by kernel_rfl) (by kernel_rfl) (by kernel_rfl) (fun _ _ _ h => h) (Or.inl ⟨by kernel_rfl, ?hyt8⟩) (by assumption) ?restt8
            case hyt8 => (intro W hSw; (try dsimp only at hSw); go_simp; try with_reducible rfl)
            case' restt8 => try simp only [Act.put, List.setIfInBounds_toArray, List.set_cons_zero, List.set_cons_succ]
            refine wpAnyH_take (i := 8) (oi := ⟨some 119, _, _, _, _, _⟩) (v := ?vt9) rfl (by kernel_rfl) (by kernel_rfl) (by kernel_rfl) (fun _ _ _ h => h) (Or.inl ⟨by kernel_rfl, ?hyt9⟩) (by assumption) ?restt9
            case hyt9 => (intro W hSw; have gw := HGW.out W hSw; (try dsimp only at hSw); go_simp; try with_reducible rfl)
            case' restt9 => try simp only [Act.put, List.setIfInBounds_toArray, List.set_cons_zero, List.set_cons_succ]
            refine wpAnyH_take (i := 9) (oi := ⟨some 120, _, _, _, _, _⟩) (v := ?vt10) rfl (by kernel_rfl) (by kernel_rfl) (by kernel_rfl) (fun _ _ _ h => h) (Or.inl ⟨by kernel_rfl, ?hyt10⟩) (by assumption) ?restt10
            case hyt10 => (intro W hSw; (try dsimp only at hSw); go_simp; try with_reducible rfl)
            case' restt10 => try simp only [Act.put, List.setIfInBounds_toArray, List.set_cons_zero, List.set_cons_succ]
            refine wpAnyH_take (i := 10) (oi := ⟨some 121, _, _, _, _, _⟩) (v := ?vt11) rfl (by kernel_rfl) (by kernel_rfl) (by kernel_rfl) (fun _ _ _ h => h) (Or.inl ⟨by kernel_rfl, ?hyt11⟩) (by assumption) ?restt11
            case hyt11 => (intro W hSw; (try dsimp only at hSw); go_simp; try with_reducible rfl)
            case' restt11 => try simp only [Act.put, List.setIfInBounds_toArray, List.set_cons_zero, List.set_cons_succ]
            refine wpAnyH_take (i := 11) (oi := ⟨some 122, _, _, _, _, _⟩) (v := ?vt12) rfl (by kernel_rfl) (by kernel_rfl) (by kernel_rfl) (fun _ _ _ h => h) (Or.inl ⟨by kernel_rfl, ?hyt12⟩) (by assumption) ?restt12
            case hyt12 => (intro W hSw; (try dsimp only at hSw); go_simp; try with_reducible rfl)
            case' restt12 => try simp only [Act.put, List.setIfInBounds_toArray, List.set_cons_zero, List.set_cons_succ]
            refine wpAnyH_take (i := 12) (oi := ⟨some 123, _, _, _, _, _⟩) (v := ?vt13) rfl (by kernel_rfl) (by kernel_rfl) (by kernel_rfl) (fun _ _ _ h => h) (Or.inl ⟨by kernel_rfl, ?hyt13⟩) (by assumption) ?restt13
            case hyt13 => (intro W hSw; (try dsimp only at hSw); go_simp; try with_reducible rfl)
            case' restt13 => try simp only [Act.put, List.setIfInBounds_toArray, List.set_cons_zero, List.set_cons_succ]
            refine wpAnyH_take (i := 13) (oi := ⟨some 124, _, _, _, _, _⟩) (v := ?vt14) rfl (by kernel_rfl) (by kernel_rfl) (by kernel_rfl) (fun _ _ _ h => h) (Or.inl ⟨by kernel_rfl, ?hyt14⟩) (by assumption) ?restt14
            case hyt14 => (intro W hSw; (try dsimp only at hSw); go_simp; try with_reducible rfl)
            case' restt14 => try simp only [Act.put, List.setIfInBounds_toArray, List.set_cons_zero, List.set_cons_succ]
            refine wpAnyH_take (i := 14) (oi := ⟨some 125, _, _, _, _, _⟩) (v := ?vt15) rfl (by kernel_rfl) (by kernel_rfl) (by kernel_rfl) (fun _ _ _ h => h) (Or.inl ⟨by kernel_rfl, ?hyt15⟩) (by assumption) ?restt15
            case hyt15 => (intro W hSw; (try dsimp only at hSw); go_simp; try with_reducible rfl)
            case' restt15 => try simp only [Act.put, List.setIfInBounds_toArray, List.set_cons_zero, List.set_cons_succ]
            refine wpAnyH_take (i := 15) (oi := ⟨some 126, _, _, _, _, _⟩) (v := ?vt16) rfl (by kernel_rfl) (by kernel_rfl) (by kernel_rfl) (fun _ _ _ h => h) (Or.inl ⟨by kernel_rfl, ?hyt16⟩) (by assumption) ?restt16
            case hyt16 => (intro W hSw; have gw := HGW.out W hSw; (try dsimp only at hSw); go_simp; try with_reducible rfl)
            case' restt16 => try simp only [Act.put, List.setIfInBounds_toArray, List.set_cons_zero, List.set_cons_succ]
            refine wpAnyH_take (i := 16) (oi := ⟨some 127, _, _, _, _, _⟩) (v := ?vt17) rfl (by kernel_rfl) (by kernel_rfl) (by kernel_rfl) (fun _ _ _ h => h) (Or.inl ⟨by kernel_rfl, ?hyt17⟩) (by assumption) ?restt17
            case hyt17 => (intro W hSw; (try dsimp only at hSw); go_simp; try with_reducible rfl)
            case' restt17 => try simp only [Act.put, List.setIfInBounds_toArray, List.set_cons_zero, List.set_cons_succ]
            refine wpAnyH_take (i := 17) (oi := ⟨some 128, _, _, _, _, _⟩) (v := ?vt18) rfl (by kernel_rfl) (by kernel_rfl) (by kernel_rfl) (fun _ _ _ h => h) (Or.inl ⟨by kernel_rfl, ?hyt18⟩) (by assumption) ?restt18
            case hyt18 => (intro W hSw; (try dsimp only at hSw); go_simp; try with_reducible rfl)
            case' restt18 => try simp only [Act.put, List.setIfInBounds_toArray, List.set_cons_zero, List.set_cons_succ]
            refine wpAnyH_take (i := 18) (oi := ⟨some 129, _, _, _, _, _⟩) (v := ?vt19) rfl (by kernel_rfl) (by kernel_rfl) (by kernel_rfl) (fun _ _ _ h => h) (Or.inl ⟨by kernel_rfl, ?hyt19⟩) (by assumption) ?restt19
            case hyt19 => (intro W hSw; (try dsimp only at hSw); go_simp; try with_reducible rfl)
            case' restt19 => try simp only [Act.put, List.setIfInBounds_toArray, List.set_cons_zero, List.set_cons_succ]
            refine wpAnyH_take (i := 19) (oi := ⟨some 130, _, _, _, _, _⟩) (v := ?vt20) rfl (by kernel_rfl) (by kernel_rfl) (by kernel_rfl) (fun _ _ _ h => h) (Or.inl ⟨by kernel_rfl, ?hyt20⟩) (by assumption) ?restt20
            case hyt20 => (intro W hSw; (try dsimp only at hSw); go_simp; try with_reducible rfl)
            case' restt20 => try simp only [Act.put, List.setIfInBounds_toArray, List.set_cons_zero, List.set_cons_succ]
            refine wpAnyH_take (i := 20) (oi := ⟨some 131, _, _, _, _, _⟩) (v := ?vt21) rfl (by kernel_rfl) (by kernel_rfl) (by kernel_rfl) (fun _ _ _ h => h) (Or.inl ⟨by kernel_rfl, ?hyt21⟩) (by assumption) ?restt21
            case hyt21 => (intro W hSw; (try dsimp only at hSw); go_simp; try with_reducible rfl)
            case' restt21 => try simp only [Act.put, List.setIfInBounds_toArray, List.set_cons_zero, List.set_cons_succ]
            refine wpAnyH_take (i := 21) (oi := ⟨some 132, _, _, _, _, _⟩) (v := ?vt22) rfl (by kernel_rfl) (by kernel_rfl) (by kernel_rfl) (fun _ _ _ h => h) (Or.inl ⟨by kernel_rfl, ?hyt22⟩) (by assumption) ?restt22
            case hyt22 => (intro W hSw; obtain ⟨g0, g1, g2, g3⟩ := HB.out W hSw; (try dsimp only at hSw); go_simp; try with_reducible rfl)
            case' restt22 => try simp only [Act.put, List.setIfInBounds_toArray, List.set_cons_zero, List.set_cons_succ]
            refine wpAnyH_take (i := 22) (oi := ⟨some 133, _, _, _, _, _⟩) (v := ?vt23) rfl (by kernel_rfl) (by kernel_rfl) (by kernel_rfl) (fun _ _ _ h => h) (Or.inl ⟨by kernel_rfl, ?hyt23⟩) (by assumption) ?restt23
            case hyt23 => (intro W hSw; (try dsimp only at hSw); go_simp; try with_reducible rfl)
            case' restt23 => try simp only [Act.put, List.setIfInBounds_toArray, List.set_cons_zero, List.set_cons_succ]
            refine wpAnyH_take (i := 23) (oi := ⟨some 134, _, _, _, _, _⟩) (v := ?vt24) rfl (by kernel_rfl) (by kernel_rfl) (by kernel_rfl) (fun _ _ _ h => h) (Or.inl ⟨by kernel_rfl, ?hyt24⟩) (by assumption) ?restt24
            case hyt24 => (intro W hSw; (try dsimp only at hSw); go_simp; try with_reducible rfl)
            case' restt24 => try simp only [Act.put, List.setIfInBounds_toArray, List.set_cons_zero, List.set_cons_succ]
            refine wpAnyH_take (i := 24) (oi := ⟨some 135, _, _, _, _, _⟩) (v := ?vt25) rfl (by kernel_rfl) (by kernel_rfl) (by kernel_rfl) (fun _ _ _ h => h) (Or.inl ⟨by kernel_rfl, ?hyt25⟩) (by assumption) ?restt25
            case hyt25 => (intro W hSw; (try dsimp only at hSw); go_simp; try with_reducible rfl)
            case' restt25 => try simp only [Act.put, List.setIfInBounds_toArray, List.set_cons_zero, List.set_cons_succ]
            refine wpAnyH_take (i := 25) (oi := ⟨some 136, _, _, _, _, _⟩) (v := ?vt26) rfl (by kernel_rfl) (by kernel_rfl) (by kernel_rfl) (fun _ _ _ h => h) (Or.inl ⟨by kernel_rfl, ?hyt26⟩) (by assumption) ?restt26
            case hyt26 => (intro W hSw; (try dsimp only at hSw); go_simp; try with_reducible rfl)
            case' restt26 => try simp only [Act.put, List.setIfInBounds_toArray, List.set_cons_zero, List.set_cons_succ]
            refine wpAnyH_take (i := 26) (oi := ⟨some 137, _, _, _, _, _⟩) (v := ?vt27) rfl (by kernel_rfl) (by kernel_rfl) (by kernel_rfl) (fun _ _ _ h => h) (Or.inl ⟨by kernel_rfl, ?hyt27⟩) (by assumption) ?restt27
            case hyt27 => (intro W hSw; (try dsimp only at hSw); go_simp; try with_reducible rfl)
            case' restt27 => try simp only [Act.put, List.setIfInBounds_toArray, List.set_cons_zero, List.set_cons_succ]
            refine wpAnyH_take (i := 27) (oi := ⟨some 138, _, _, _, _, _⟩) (v := ?vt28) rfl (by kernel_rfl) (by kernel_rfl) (by kernel_rfl) (fun _ _ _ h => h) (Or.inl ⟨by kernel_rfl, ?hyt28⟩) (by assumption) ?restt28
            case hyt28 => (intro W hSw; (try dsimp only at hSw); go_simp; try with_reducible rfl)
            case' restt28 => try simp only [Act.put, List.setIfInBounds_toArray, List.set_cons_zero, List.set_cons_succ]
            refine wpAnyH_take (i := 28) (oi := ⟨some 139, _, _, _, _, _⟩) (v := ?vt29) rfl (by kernel_rfl) (by kernel_rfl) (by kernel_rfl) (fun _ _ _ h => h) (Or.inl ⟨by kernel_rfl, ?hyt29⟩) (by assumption) ?restt29
            case hyt29 => (intro W hSw; (try dsimp only at hSw); go_simp; try with_reducible rfl)
            case' restt29 => try simp only [Act.put, List.setIfInBounds_toArray, List.set_cons_zero, List.set_cons_succ]
            refine wpAnyH_take (i := 29) (oi := ⟨some 140, _, _, _, _, _⟩) (v := ?vt30) rfl (by kernel_rfl) (by kernel_rfl) (by kernel_rfl) (fun _ _ _ h => h) (Or.inl ⟨by kernel_rfl, ?hyt30⟩) (by assumption) ?restt30
            case hyt30 => (intro W hSw; obtain ⟨g0, g1, g2, g3⟩ := HB.out W hSw; (try dsimp only at hSw); go_simp; try with_reducible rfl)
            case' restt30 => try simp only [Act.put, List.setIfInBounds_toArray, List.set_cons_zero, List.set_cons_succ]
            refine wpAnyH_take (i := 30) (oi := ⟨some 141, _, _, _, _, _⟩) (v := ?vt31) rfl (by kernel_rfl) (by kernel_rfl) (by kernel_rfl) (fun _ _ _ h => h) (Or.inl ⟨by kernel_rfl, ?hyt31⟩) (by assumption) ?restt31
            case hyt31 => (intro W hSw; (try dsimp only at hSw); go_simp; try with_reducible rfl)
            case' restt31 => try simp only [Act.put, List.setIfInBounds_toArray, List.set_cons_zero, List.set_cons_succ]
            refine wpAnyH_take (i := 31) (oi := ⟨some 142, _, _, _, _, _⟩) (v := ?vt32) rfl (by kernel_rfl) (by kernel_rfl) (by kernel_rfl) (fun _ _ _ h => h) (Or.inl ⟨by kernel_rfl, ?hyt32⟩) (by assumption) ?restt32
            case hyt32 => (intro W hSw; (try dsimp only at hSw); go_simp; try with_reducible rfl)
            case' restt32 => try simp only [Act.put, List.setIfInBounds_toArray, List.set_cons_zero, List.set_cons_succ]
            refine wpAnyH_take (i := 32) (oi := ⟨some 143, _, _, _, _, _⟩) (v := ?vt33) rfl (by kernel_rfl) (by kernel_rfl) (by kernel_rfl) (fun _ _ _ h => h) (Or.inl ⟨by kernel_rfl, ?hyt33⟩) (by assumption) ?restt33
            case hyt33 => (intro W hSw; (try dsimp only at hSw); go_simp; try with_reducible rfl)
            case' restt33 => try simp only [Act.put, List.setIfInBounds_toArray, List.set_cons_zero, List.set_cons_succ]
            refine wpAnyH_take (i := 33) (oi := ⟨some 144, _, _, _, _, _⟩) (v := ?vt34) rfl (by kernel_rfl) (by kernel_rfl) (by kernel_rfl) (fun _ _ _ h => h) (Or.inl ⟨by kernel_rfl, ?hyt34⟩) (by assumption) ?restt34
            case hyt34 => (intro W hSw; have gw := HGW.out W hSw; (try dsimp only at hSw); go_simp; try with_reducible rfl)
            case' restt34 => try simp only [Act.put, List.setIfInBounds_toArray, List.set_cons_zero, List.set_cons_succ]
            refine wpAnyH_take (i := 34) (oi := ⟨some 145, _, _, _, _, _⟩) (v := ?vt35) rfl (by kernel_rfl) (by kernel_rfl) (by kernel_rfl) (fun _ _ _ h => h) (Or.inl ⟨by kernel_rfl, ?hyt35⟩) (by assumption) ?restt35
            case hyt35 => (intro W hSw; (try dsimp only at hSw); go_simp; try with_reducible rfl)
            case' restt35 => try simp only [Act.put, List.setIfInBounds_toArray, List.set_cons_zero, List.set_cons_succ]
            refine wpAnyH_take (i := 35) (oi := ⟨some 146, _, _, _, _, _⟩) (v := ?vt36) rfl (by kernel_rfl) (by kernel_rfl) (by kernel_rfl) (fun _ _ _ h => h) (Or.inl ⟨by kernel_rfl, ?hyt36⟩) (by assumption) ?restt36
            case hyt36 => (intro W hSw; (try dsimp only at hSw); go_simp; try with_reducible rfl)
            case' restt36 => try simp only [Act.put, List.setIfInBounds_toArray, List.set_cons_zero, List.set_cons_succ]
            refine wpAnyH_take (i := 36) (oi := ⟨some 147, _, _, _, _, _⟩) (v := ?vt37) rfl (by kernel_rfl) (by kernel_rfl) (by kernel_rfl) (fun _ _ _ h => h) (Or.inl ⟨by kernel_rfl, ?hyt37⟩) (by assumption) ?restt37
            case hyt37 => (intro W hSw; (try dsimp only at hSw); go_simp; try with_reducible rfl)
            case' restt37 => try simp only [Act.put, List.setIfInBounds_toArray, List.set_cons_zero, List.set_cons_succ]
            refine wpAnyH_take (i := 37) (oi := ⟨some 148, _, _, _, _, _⟩) (v := ?vt38) rfl (by kernel_rfl) (by kernel_rfl) (by kernel_rfl) (fun _ _ _ h => h) (Or.inl ⟨by kernel_rfl, ?hyt38⟩) (by assumption) ?restt38
            case hyt38 => (intro W hSw; (try dsimp only at hSw); go_simp; try with_reducible rfl)
            case' restt38 => try simp only [Act.put, List.setIfInBounds_toArray, List.set_cons_zero, List.set_cons_succ]
            refine wpAnyH_take (i := 38) (oi := ⟨some 149, _, _, _, _, _⟩) (v := ?vt39) rfl (by kernel_rfl) (by kernel_rfl) (by kernel_rfl) (fun _ _ _ h => h) (Or.inl ⟨by kernel_rfl, ?hyt39⟩) (by assumption) ?restt39
            case hyt39 => (intro W hSw; (try dsimp only at hSw); go_simp; try with_reducible rfl)
            case' restt39 => try simp only [Act.put, List.setIfInBounds_toArray, List.set_cons_zero, List.set_cons_succ]
            refine wpAnyH_take (i := 39) (oi := ⟨some 150, _, _, _, _, _⟩) (v := ?vt40) rfl (by kernel_rfl) (by kernel_rfl) (by kernel_rfl) (fun _ _ _ h => h) (Or.inl ⟨by kernel_rfl, ?hyt40⟩) (by assumption) ?restt40
            case hyt40 => (intro W hSw; (try dsimp only at hSw); go_simp; try with_reducible rfl)
            case' restt40 => try simp only [Act.put, List.setIfInBounds_toArray, List.set_cons_zero, List.set_cons_succ]
            refine wpAnyH_take (i := 40) (oi := ⟨some 151, _, _, _, _, _⟩) (v := ?vt41) rfl (by kernel_rfl) (by kernel_rfl) (by kernel_rfl) (fun _ _ _ h => h) (Or.inl ⟨by kernel_rfl, ?hyt41⟩) (by assumption) ?restt41
            case hyt41 => (intro W hSw; (try dsimp only at hSw); go_simp; try with_reducible rfl)
            case' restt41 => try simp only [Act.put, List.setIfInBounds_toArray, List.set_cons_zero, List.set_cons_succ]
            refine wpAnyH_take (i := 41) (oi := ⟨some 152, _, _, _, _, _⟩) (v := ?vt42) rfl (by kernel_rfl) (by kernel_rfl) (by kernel_rfl) (fun _ _ _ h => h) (Or.inl ⟨by kernel_rfl, ?hyt42⟩) (by assumption) ?restt42
            case hyt42 => (intro W hSw; have gw := HGW.out W hSw; (try dsimp only at hSw); go_simp; try with_reducible rfl)
            case' restt42 => try simp only [Act.put, List.setIfInBounds_toArray, List.set_cons_zero, List.set_cons_succ]
            refine wpAnyH_take (i := 42) (oi := ⟨some 153, _, _, _, _, _⟩) (v := ?vt43) rfl (by kernel_rfl) (by kernel_rfl) (by kernel_rfl) (fun _ _ _ h => h) (Or.inl ⟨by kernel_rfl, ?hyt43⟩) (by assumption) ?restt43
            case hyt43 => (intro W hSw; (try dsimp only at hSw); go_simp; try with_reducible rfl)
            case' restt43 => try simp only [Act.put, List.setIfInBounds_toArray, List.set_cons_zero, List.set_cons_succ]
            refine wpAnyH_take (i := 43) (oi := ⟨some 154, _, _, _, _, _⟩) (v := ?vt44) rfl (by kernel_rfl) (by kernel_rfl) (by kernel_rfl) (fun _ _ _ h => h) (Or.inl ⟨by kernel_rfl, ?hyt44⟩) (by assumption) ?restt44
            case hyt44 => (intro W hSw; (try dsimp only at hSw); go_simp; try with_reducible rfl)
            case' restt44 => try simp only [Act.put, List.setIfInBounds_toArray, List.set_cons_zero, List.set_cons_succ]
            refine wpAnyH_take (i := 44) (oi := ⟨some 155, _, _, _, _, _⟩) (v := ?vt45) rfl (by kernel_rfl) (by kernel_rfl) (by kernel_rfl) (fun _ _ _ h => h) (Or.inl ⟨by kernel_rfl, ?hyt45⟩) (by assumption) ?restt45
            case hyt45 => (intro W hSw; (try dsimp only at hSw); go_simp; try with_reducible rfl)
            case' restt45 => try simp only [Act.put, List.setIfInBounds_toArray, List.set_cons_zero, List.set_cons_succ]
            refine wpAnyH_take (i := 45) (oi := ⟨some 156, _, _, _, _, _⟩) (v := ?vt46) rfl (by kernel_rfl) (by kernel_rfl) (by kernel_rfl) (fun _ _ _ h => h) (Or.inl ⟨by kernel_rfl, ?hyt46⟩) (by assumption) ?restt46
            case hyt46 => (intro W hSw; (try dsimp only at hSw); go_simp; try with_reducible rfl)
            case' restt46 => try simp only [Act.put, List.setIfInBounds_toArray, List.set_cons_zero, List.set_cons_succ]
            refine wpAnyH_take (i := 46) (oi := ⟨some 157, _, _, _, _, _⟩) (v := ?vt47) rfl (by kernel_rfl) (by kernel_rfl) (by kernel_rfl) (fun _ _ _ h => h) (Or.inl ⟨by kernel_rfl, ?hyt47⟩) (by assumption) ?restt47
            case hyt47 => (intro W hSw; (try dsimp only at hSw); go_simp; try with_reducible rfl)
            case' restt47 => try simp only [Act.put, List.setIfInBounds_toArray, List.set_cons_zero, List.set_cons_succ]
            refine wpAnyH_take (i := 47) (oi := ⟨some 158, _, _, _, _, _⟩) (v := ?vt48) rfl (by kernel_rfl) (by kernel_rfl) (by kernel_rfl) (fun _ _ _ h => h) (Or.inl ⟨by kernel_rfl, ?hyt48⟩) (by assumption) ?restt48
            case hyt48 => (intro W hSw; obtain ⟨g0, g1, g2, g3⟩ := HB.out W hSw; (try dsimp only at hSw); go_simp; try with_reducible rfl)
            case' restt48 => try simp only [Act.put, List.setIfInBounds_toArray, List.set_cons_zero, List.set_cons_succ]
            refine wpAnyH_take (i := 48) (oi := ⟨some 159, _, _, _, _, _⟩) (v := ?vt49) rfl (by kernel_rfl) (by kernel_rfl) (by kernel_rfl) (fun _ _ _ h => h) (Or.inl ⟨by kernel_rfl, ?hyt49⟩) (by assumption) ?restt49
            case hyt49 => (intro W hSw; (try dsimp only at hSw); go_simp; try with_reducible rfl)
            case' restt49 => try simp only [Act.put, List.setIfInBounds_toArray, List.set_cons_zero, List.set_cons_succ]
            refine wpAnyH_take (i := 49) (oi := ⟨some 160, _, _, _, _, _⟩) (v := ?vt50) rfl (by kernel_rfl) (by kernel_rfl) (by kernel_rfl) (fun _ _ _ h => h) (Or.inl ⟨by kernel_rfl, ?hyt50⟩) (by assumption) ?restt50
            case hyt50 => (intro W hSw; (try dsimp only at hSw); go_simp; try with_reducible rfl)
            case' restt50 => try simp only [Act.put, List.setIfInBounds_toArray, List.set_cons_zero, List.set_cons_succ]
            refine wpAnyH_done (by kernel_rfl) ?_ _
            try clear hrem hquo
            go_wp2
            go_roundw
            case rel => exact ⟨k + 1, by omega, by go_num, by rw [HSU.out, HCV.out]; go_num, hbi.trans (hS1.mono hbi.size)⟩
            case measure => simp [intOf]; omega
        · obtain rfl : k = l1.length := by omega
          rw [List.take_length, HCI.out]
          have hdk : decide (l1.length < l1.length) = false := decide_eq_false (by omega)
          obtain ⟨A2', c2', e, _, hR2⟩ := HV2.out
          injection e with e e4 e5
          subst e
          subst e5
          clear e4
          obtain ⟨A3', c3', e, _, hR3⟩ := HV3.out
          injection e with e e4 e5
          subst e
          subst e5
          clear e4
          obtain ⟨b2, off2, rfl, hb2, g2⟩ := RdI.get hR2 (Below.refl _ _) (show i < ca.length by rw [HLA.out, HNN.out]; exact hlt)
          obtain ⟨b3, off3, rfl, hb3, g3⟩ := RdI.get hR3 (Below.refl _ _) (show i < cb.length by rw [HLB.out, HNN.out]; exact hlt)
          obtain ⟨p, hp⟩ : ∃ p, ca[i]! = p := ⟨_, rfl⟩
          obtain ⟨q2, hq2⟩ : ∃ q2, cb[i]! = q2 := ⟨_, rfl⟩
          rw [hp, hq2]
          rw [hp] at g2
          rw [hq2] at g3
          have HAB := Lib.hid (fun (W : World) (hW : Below wr.heap.size wr W) => And.intro (((kk.trans (hW.mono kk.size)).cell (p := ⟨b2, off2 + i, none⟩) hb2).trans g2) (((kk.trans (hW.mono kk.size)).cell (p := ⟨b3, off3 + i, none⟩) hb3).trans g3))
          have hS1 : (fun W : World => Below wr.heap.size wr W) wr.drew := (Below.refl _ _).drew
          clear hp hq2 g2 g3 hR2 hR3
          by_cases hpq : p = q2
          · rw [if_neg (fun h => h hpq)]
            as_aux_lemma =>
              have dn : (p == q2) = true := by simp [hpq]
              have dn2 : (p != q2) = false := by simp [hpq]
              clear hpq
              go_wp2_with fail
              refine wp_region_held_drew (S := fun W : World => Below wr.heap.size wr W) (by kernel_rfl) hS1 (fun hHeld => ?_)
              clear hHeld
              generalize wr.drew = wzu at *
              refine wpAnyH_take (i := 0) (oi := ⟨some 163, _, _, _, _, _⟩) (v := ?vu1) rfl (by kernel_rfl) (by kernel_rfl) (by kernel_rfl) (fun _ _ _ h => h) (Or.inl ⟨by kernel_rfl, ?hyu1⟩) (by assumption) ?restu1
              case hyu1 => (intro W hSw; (try dsimp only at hSw); go_simp; try with_reducible rfl)
              case' restu1 => try simp only [Act.put, List.setIfInBounds_toArray, List.set_cons_zero, List.set_cons_succ]
              refine wpAnyH_take (i := 1) (oi := ⟨some 164, _, _, _, _, _⟩) (v := ?vu2) rfl (by kernel_rfl) (by kernel_rfl) (by kernel_rfl) (fun _ _ _ h => h) (Or.inl ⟨by kernel_rfl, ?hyu2⟩) (by assumption) ?restu2
              case hyu2 => (intro W hSw; (try dsimp only at hSw); go_simp; try with_reducible rfl)
              case' restu2 => try simp only [Act.put, List.setIfInBounds_toArray, List.set_cons_zero, List.set_cons_succ]
              refine wpAnyH_take (i := 2) (oi := ⟨some 165, _, _, _, _, _⟩) (v := ?vu3) rfl (by kernel_rfl) (by kernel_rfl) (by kernel_rfl) (fun _ _ _ h => h) (Or.inl ⟨by kernel_rfl, ?hyu3⟩) (by assumption) ?restu3
              case hyu3 => (intro W hSw; (try dsimp only at hSw); go_simp; try with_reducible rfl)
              case' restu3 => try simp only [Act.put, List.setIfInBounds_toArray, List.set_cons_zero, List.set_cons_succ]
              refine wpAnyH_take (i := 3) (oi := ⟨some 166, _, _, _, _, _⟩) (v := ?vu4) rfl (by kernel_rfl) (by kernel_rfl) (by kernel_rfl) (fun _ _ _ h => h) (Or.inl ⟨by kernel_rfl, ?hyu4⟩) (by assumption) ?restu4
              case hyu4 => (intro W hSw; (try dsimp only at hSw); go_simp; try with_reducible rfl)
              case' restu4 => try simp only [Act.put, List.setIfInBounds_toArray, List.set_cons_zero, List.set_cons_succ]
              refine wpAnyH_take (i := 4) (oi := ⟨some 167, _, _, _, _, _⟩) (v := ?vu5) rfl (by kernel_rfl) (by kernel_rfl) (by kernel_rfl) (fun _ _ _ h => h) (Or.inl ⟨by kernel_rfl, ?hyu5⟩) (by assumption) ?restu5
              case hyu5 => (intro W hSw; (try dsimp only at hSw); go_simp; try with_reducible rfl)
              case' restu5 => try simp only [Act.put, List.setIfInBounds_toArray, List.set_cons_zero, List.set_cons_succ]
              refine wpAnyH_take (i := 5) (oi := ⟨some 168, _, _, _, _, _⟩) (v := ?vu6) rfl (by kernel_rfl) (by kernel_rfl) (by kernel_rfl) (fun _ _ _ h => h) (Or.inl ⟨by kernel_rfl, ?hyu6⟩) (by assumption) ?restu6
              case hyu6 => (intro W hSw; (try dsimp only at hSw); go_simp; try with_reducible rfl)
              case' restu6 => try simp only [Act.put, List.setIfInBounds_toArray, List.set_cons_zero, List.set_cons_succ]
              refine wpAnyH_take (i := 6) (oi := ⟨some 169, _, _, _, _, _⟩) (v := ?vu7) rfl (by kernel_rfl) (by kernel_rfl) (by kernel_rfl) (fun _ _ _ h => h) (Or.inl ⟨by kernel_rfl, ?hyu7⟩) (by assumption) ?restu7
              case hyu7 => (intro W hSw; (try dsimp only at hSw); go_simp; try with_reducible rfl)
              case' restu7 => try simp only [Act.put, List.setIfInBounds_toArray, List.set_cons_zero, List.set_cons_succ]
              refine wpAnyH_take (i := 7) (oi := ⟨some 170, _, _, _, _, _⟩) (v := ?vu8) rfl (by kernel_rfl) (by kernel_rfl) (by kernel_rfl) (fun _ _ _ h => h) (Or.inl ⟨by kernel_rfl, ?hyu8⟩) (by assumption) ?restu8
              case hyu8 => (intro W hSw; (try dsimp only at hSw); go_simp; try with_reducible rfl)
              case' restu8 => try simp only [Act.put, List.setIfInBounds_toArray, List.set_cons_zero, List.set_cons_succ]
              refine wpAnyH_take (i := 8) (oi := ⟨some 171, _, _, _, _, _⟩) (v := ?vu9) rfl (by kernel_rfl) (by kernel_rfl) (by kernel_rfl) (fun _ _ _ h => h) (Or.inl ⟨by kernel_rfl, ?hyu9⟩) (by assumption) ?restu9
              case hyu9 => (intro W hSw; have gw := (HAB.out W hSw).1; (try dsimp only at hSw); go_simp; try with_reducible rfl)
              case' restu9 => try simp only [Act.put, List.setIfInBounds_toArray, List.set_cons_zero, List.set_cons_succ]
              refine wpAnyH_take (i := 9) (oi := ⟨some 172, _, _, _, _, _⟩) (v := ?vu10) rfl (by kernel_rfl) (by kernel_rfl) (by kernel_rfl) (fun _ _ _ h => h) (Or.inl ⟨by kernel_rfl, ?hyu10⟩) (by assumption) ?restu10
              case hyu10 => (intro W hSw; (try dsimp only at hSw); go_simp; try with_reducible rfl)
              case' restu10 => try simp only [Act.put, List.setIfInBounds_toArray, List.set_cons_zero, List.set_cons_succ]
              refine wpAnyH_take (i := 10) (oi := ⟨some 173, _, _, _, _, _⟩) (v := ?vu11) rfl (by kernel_rfl) (by kernel_rfl) (by kernel_rfl) (fun _ _ _ h => h) (Or.inl ⟨by kernel_rfl, ?hyu11⟩) (by assumption) ?restu11
              case hyu11 => (intro W hSw; (try dsimp only at hSw); go_simp; try with_reducible rfl)
              case' restu11 => try simp only [Act.put, List.setIfInBounds_toArray, List.set_cons_zero, List.set_cons_succ]
              refine wpAnyH_take (i := 11) (oi := ⟨some 174, _, _, _, _, _⟩) (v := ?vu12) rfl (by kernel_rfl) (by kernel_rfl) (by kernel_rfl) (fun _ _ _ h => h) (Or.inl ⟨by kernel_rfl, ?hyu12⟩) (by assumption) ?restu12
              case hyu12 => (intro W hSw; (try dsimp only at hSw); go_simp; try with_reducible rfl)
              case' restu12 => try simp only [Act.put, List.setIfInBounds_toArray, List.set_cons_zero, List.set_cons_succ]
              refine wpAnyH_take (i := 12) (oi := ⟨some 175, _, _, _, _, _⟩) (v := ?vu13) rfl (by kernel_rfl) (by kernel_rfl) (by kernel_rfl) (fun _ _ _ h => h) (Or.inl ⟨by kernel_rfl, ?hyu13⟩) (by assumption) ?restu13
              case hyu13 => (intro W hSw; have gw := (HAB.out W hSw).2; (try dsimp only at hSw); go_simp; try with_reducible rfl)
              case' restu13 => try simp only [Act.put, List.setIfInBounds_toArray, List.set_cons_zero, List.set_cons_succ]
              refine wpAnyH_take (i := 13) (oi := ⟨some 176, _, _, _, _, _⟩) (v := ?vu14) rfl (by kernel_rfl) (by kernel_rfl) (by kernel_rfl) (fun _ _ _ h => h) (Or.inl ⟨by kernel_rfl, ?hyu14⟩) (by assumption) ?restu14
              case hyu14 => (intro W hSw; (try dsimp only at hSw); go_simp; try with_reducible rfl)
              case' restu14 => try simp only [Act.put, List.setIfInBounds_toArray, List.set_cons_zero, List.set_cons_succ]
              refine wpAnyH_take (i := 14) (oi := ⟨some 177, _, _, _, _, _⟩) (v := ?vu15) rfl (by kernel_rfl) (by kernel_rfl) (by kernel_rfl) (fun _ _ _ h => h) (Or.inl ⟨by kernel_rfl, ?hyu15⟩) (by assumption) ?restu15
              case hyu15 => (intro W hSw; (try dsimp only at hSw); go_simp; try with_reducible rfl)
              case' restu15 => try simp only [Act.put, List.setIfInBounds_toArray, List.set_cons_zero, List.set_cons_succ]
              refine wpAnyH_take (i := 15) (oi := ⟨some 178, _, _, _, _, _⟩) (v := ?vu16) rfl (by kernel_rfl) (by kernel_rfl) (by kernel_rfl) (fun _ _ _ h => h) (Or.inl ⟨by kernel_rfl, ?hyu16⟩) (by assumption) ?restu16
              case hyu16 => (intro W hSw; (try dsimp only at hSw); go_simp; try with_reducible rfl)
              case' restu16 => try simp only [Act.put, List.setIfInBounds_toArray, List.set_cons_zero, List.set_cons_succ]
              refine wpAnyH_done (by kernel_rfl) ?_ _
              go_wp2
              go_roundw
              case rel => first | exact ⟨i + 1, by omega, by go_num, kk.trans (hS1.mono kk.size)⟩ | ((repeat apply Exists.intro); exact ⟨⟨i + 1, by omega, by go_num, kk.trans (hS1.mono kk.size)⟩, rfl⟩)
              case measure => simp [intOf]; omega
          · rw [if_pos hpq]
            as_aux_lemma =>
              have dn : (p == q2) = false := by simp [hpq]
              have dn2 : (p != q2) = true := by simp [hpq]
              clear hpq
              go_wp2_with fail
              refine wp_region_held_drew (S := fun W : World => Below wr.heap.size wr W) (by kernel_rfl) hS1 (fun hHeld => ?_)
              clear hHeld
              generalize wr.drew = wzv at *
              refine wpAnyH_take (i := 0) (oi := ⟨some 163, _, _, _, _, _⟩) (v := ?vv1) rfl (by kernel_rfl) (by kernel_rfl) (by kernel_rfl) (fun _ _ _ h => h) (Or.inl ⟨by kernel_rfl, ?hyv1⟩) (by assumption) ?restv1
              case hyv1 => (intro W hSw; (try dsimp only at hSw); go_simp; try with_reducible rfl)
              case' restv1 => try simp only [Act.put, List.setIfInBounds_toArray, List.set_cons_zero, List.set_cons_succ]
              refine wpAnyH_take (i := 1) (oi := ⟨some 164, _, _, _, _, _⟩) (v := ?vv2) rfl (by kernel_rfl) (by kernel_rfl) (by kernel_rfl) (fun _ _ _ h => h) (Or.inl ⟨by kernel_rfl, ?hyv2⟩) (by assumption) ?restv2
              case hyv2 => (intro W hSw; (try dsimp only at hSw); go_simp; try with_reducible rfl)
              case' restv2 => try simp only [Act.put, List.setIfInBounds_toArray, List.set_cons_zero, List.set_cons_succ]
              refine wpAnyH_take (i := 2) (oi := ⟨some 165, _, _, _, _, _⟩) (v := ?vv3) rfl (by kernel_rfl) (by kernel_rfl) (by kernel_rfl) (fun _ _ _ h => h) (Or.inl ⟨by kernel_rfl, ?hyv3⟩) (by assumption) ?restv3
              case hyv3 => (intro W hSw; (try dsimp only at hSw); go_simp; try with_reducible rfl)
              case' restv3 => try simp only [Act.put, List.setIfInBounds_toArray, List.set_cons_zero, List.set_cons_succ]
              refine wpAnyH_take (i := 3) (oi := ⟨some 166, _, _, _, _, _⟩) (v := ?vv4) rfl (by kernel_rfl) (by kernel_rfl) (by kernel_rfl) (fun _ _ _ h => h) (Or.inl ⟨by kernel_rfl, ?hyv4⟩) (by assumption) ?restv4
              case hyv4 => (intro W hSw; (try dsimp only at hSw); go_simp; try with_reducible rfl)
              case' restv4 => try simp only [Act.put, List.setIfInBounds_toArray, List.set_cons_zero, List.set_cons_succ]
              refine wpAnyH_take (i := 4) (oi := ⟨some 167, _, _, _, _, _⟩) (v := ?vv5) rfl (by kernel_rfl) (by kernel_rfl) (by kernel_rfl) (fun _ _ _ h => h) (Or.inl ⟨by kernel_rfl, ?hyv5⟩) (by assumption) ?restv5
              case hyv5 => (intro W hSw; (try dsimp only at hSw); go_simp; try with_reducible rfl)
              case' restv5 => try simp only [Act.put, List.setIfInBounds_toArray, List.set_cons_zero, List.set_cons_succ]
              refine wpAnyH_take (i := 5) (oi := ⟨some 168, _, _, _, _, _⟩) (v := ?vv6) rfl (by kernel_rfl) (by kernel_rfl) (by kernel_rfl) (fun _ _ _ h => h) (Or.inl ⟨by kernel_rfl, ?hyv6⟩) (by assumption) ?restv6
              case hyv6 => (intro W hSw; (try dsimp only at hSw); go_simp; try with_reducible rfl)
              case' restv6 => try simp only [Act.put, List.setIfInBounds_toArray, List.set_cons_zero, List.set_cons_succ]
              refine wpAnyH_take (i := 6) (oi := ⟨some 169, _, _, _, _, _⟩) (v := ?vv7) rfl (by kernel_rfl) (by kernel_rfl) (by kernel_rfl) (fun _ _ _ h => h) (Or.inl ⟨by kernel_rfl, ?hyv7⟩) (by assumption) ?restv7
              case hyv7 => (intro W hSw; (try dsimp only at hSw); go_simp; try with_reducible rfl)
              case' restv7 => try simp only [Act.put, List.setIfInBounds_toArray, List.set_cons_zero, List.set_cons_succ]
              refine wpAnyH_take (i := 7) (oi := ⟨some 170, _, _, _, _, _⟩) (v := ?vv8) rfl (by kernel_rfl) (by kernel_rfl) (by kernel_rfl) (fun _ _ _ h => h) (Or.inl ⟨by kernel_rfl, ?hyv8⟩) (by assumption) ?restv8
              case hyv8 => (intro W hSw; (try dsimp only at hSw); go_simp; try with_reducible rfl)
              case' restv8 => try simp only [Act.put, List.setIfInBounds_toArray, List.set_cons_zero, List.set_cons_succ]
              refine wpAnyH_take (i := 8) (oi := ⟨some 171, _, _, _, _, _⟩) (v := ?vv9) rfl (by kernel_rfl) (by kernel_rfl) (by kernel_rfl) (fun _ _ _ h => h) (Or.inl ⟨by kernel_rfl, ?hyv9⟩) (by assumption) ?restv9
              case hyv9 => (intro W hSw; have gw := (HAB.out W hSw).1; (try dsimp only at hSw); go_simp; try with_reducible rfl)
              case' restv9 => try simp only [Act.put, List.setIfInBounds_toArray, List.set_cons_zero, List.set_cons_succ]
              refine wpAnyH_take (i := 9) (oi := ⟨some 172, _, _, _, _, _⟩) (v := ?vv10) rfl (by kernel_rfl) (by kernel_rfl) (by kernel_rfl) (fun _ _ _ h => h) (Or.inl ⟨by kernel_rfl, ?hyv10⟩) (by assumption) ?restv10
              case hyv10 => (intro W hSw; (try dsimp only at hSw); go_simp; try with_reducible rfl)
              case' restv10 => try simp only [Act.put, List.setIfInBounds_toArray, List.set_cons_zero, List.set_cons_succ]
              refine wpAnyH_take (i := 10) (oi := ⟨some 173, _, _, _, _, _⟩) (v := ?vv11) rfl (by kernel_rfl) (by kernel_rfl) (by kernel_rfl) (fun _ _ _ h => h) (Or.inl ⟨by kernel_rfl, ?hyv11⟩) (by assumption) ?restv11
              case hyv11 => (intro W hSw; (try dsimp only at hSw); go_simp; try with_reducible rfl)
              case' restv11 => try simp only [Act.put, List.setIfInBounds_toArray, List.set_cons_zero, List.set_cons_succ]
              refine wpAnyH_take (i := 11) (oi := ⟨some 174, _, _, _, _, _⟩) (v := ?vv12) rfl (by kernel_rfl) (by kernel_rfl) (by kernel_rfl) (fun _ _ _ h => h) (Or.inl ⟨by kernel_rfl, ?hyv12⟩) (by assumption) ?restv12
              case hyv12 => (intro W hSw; (try dsimp only at hSw); go_simp; try with_reducible rfl)
              case' restv12 => try simp only [Act.put, List.setIfInBounds_toArray, List.set_cons_zero, List.set_cons_succ]
              refine wpAnyH_take (i := 12) (oi := ⟨some 175, _, _, _, _, _⟩) (v := ?vv13) rfl (by kernel_rfl) (by kernel_rfl) (by kernel_rfl) (fun _ _ _ h => h) (Or.inl ⟨by kernel_rfl, ?hyv13⟩) (by assumption) ?restv13
              case hyv13 => (intro W hSw; have gw := (HAB.out W hSw).2; (try dsimp only at hSw); go_simp; try with_reducible rfl)
              case' restv13 => try simp only [Act.put, List.setIfInBounds_toArray, List.set_cons_zero, List.set_cons_succ]
              refine wpAnyH_take (i := 13) (oi := ⟨some 176, _, _, _, _, _⟩) (v := ?vv14) rfl (by kernel_rfl) (by kernel_rfl) (by kernel_rfl) (fun _ _ _ h => h) (Or.inl ⟨by kernel_rfl, ?hyv14⟩) (by assumption) ?restv14
              case hyv14 => (intro W hSw; (try dsimp only at hSw); go_simp; try with_reducible rfl)
              case' restv14 => try simp only [Act.put, List.setIfInBounds_toArray, List.set_cons_zero, List.set_cons_succ]
              refine wpAnyH_take (i := 14) (oi := ⟨some 177, _, _, _, _, _⟩) (v := ?vv15) rfl (by kernel_rfl) (by kernel_rfl) (by kernel_rfl) (fun _ _ _ h => h) (Or.inl ⟨by kernel_rfl, ?hyv15⟩) (by assumption) ?restv15
              case hyv15 => (intro W hSw; (try dsimp only at hSw); go_simp; try with_reducible rfl)
              case' restv15 => try simp only [Act.put, List.setIfInBounds_toArray, List.set_cons_zero, List.set_cons_succ]
              refine wpAnyH_take (i := 15) (oi := ⟨some 178, _, _, _, _, _⟩) (v := ?vv16) rfl (by kernel_rfl) (by kernel_rfl) (by kernel_rfl) (fun _ _ _ h => h) (Or.inl ⟨by kernel_rfl, ?hyv16⟩) (by assumption) ?restv16
              case hyv16 => (intro W hSw; (try dsimp only at hSw); go_simp; try with_reducible rfl)
              case' restv16 => try simp only [Act.put, List.setIfInBounds_toArray, List.set_cons_zero, List.set_cons_succ]
              refine wpAnyH_done (by kernel_rfl) ?_ _
              go_wp2
              go_roundw
              case rel => first | exact ⟨i + 1, by omega, by go_num, kk.trans (hS1.mono kk.size)⟩ | ((repeat apply Exists.intro); exact ⟨⟨i + 1, by omega, by go_num, kk.trans (hS1.mono kk.size)⟩, rfl⟩)
              case measure => simp [intOf]; omega
    · have hd : decide (i < N) = false := decide_eq_false hlt
      obtain rfl : i = N := by omega
      go_wp2_with fail
      generalize wr = wa at *
      have hS0 := hbw.size
      go_loopw [14] (fun j wr => ∃ k : Nat, k ≤ l1.length ∧ j = .int .i64 k ∧ Below wa.heap.size wa wr) (fun j _ => l1.length - (intOf j).toNat)
      case atStart => exact ⟨0, Nat.zero_le _, rfl, Below.refl _ _⟩
      case round =>
        obtain ⟨k, hk, rfl, hbi⟩ := hrel
        have kk := hbw.trans (hbi.mono hbw.size)
        by_cases hlk : k < l1.length
        · have hdk : decide (k < l1.length) = true := decide_eq_true hlk
          obtain ⟨b, off, c, hA, hb, _⟩ := Bx.cells HV1.out (Below.refl _ _) hlk
          injection hA with hA hx1 hx2
          subst hA
          clear hx1 hx2
          obtain ⟨i1, i2, i3, i4, i5, i6⟩ := HIN.out _ (mem_getB hlk)
          obtain ⟨q, hq⟩ : ∃ q, l1[k]! = q := ⟨_, rfl⟩
          have HB := Lib.hid (fun (W : World) (hW : Below wr.heap.size wr W) => (by
            obtain ⟨b', off', c', e, _, h⟩ := Bx.cells HV1.out (kk.trans (hW.mono kk.size)) hlk
            injection e with e _ _
            injection e with e
            injection e with e4 e5
            subst e4 e5
            rw [hq] at h
            exact h : W.cell? ⟨b, off + k * 4, none⟩ = some (.int .i64 q.x0) ∧ W.cell? ⟨b, off + k * 4 + 1, none⟩ = some (.int .i64 q.y0) ∧ W.cell? ⟨b, off + k * 4 + 2, none⟩ = some (.int .i64 q.x1) ∧ W.cell? ⟨b, off + k * 4 + 3, none⟩ = some (.int .i64 q.y1)))
          rw [hq] at i1 i2 i3 i4 i5 i6
          clear hq
          have HGW := Lib.hid (fun (W : World) (hW : Below wr.heap.size wr W) => And.intro (HG0.out W (kk.trans (hW.mono kk.size))) (HG1.out W (kk.trans (hW.mono kk.size))))
          have hS1 : (fun W : World => Below wr.heap.size wr W) wr.drew := (Below.refl _ _).drew
          have d1 : decide (q.x0 < 0) = false := decide_eq_false (by omega)
          have d2 : decide (q.y0 < 0) = false := decide_eq_false (by omega)
          have d3 : decide ((Wd : Int) ≤ q.x1) = false := decide_eq_false (by omega)
          have d4 : decide ((Ht : Int) ≤ q.y1) = false := decide_eq_false (by omega)
          have d5 : decide (q.x1 < q.x0) = false := decide_eq_false (by omega)
          have d6 : decide (q.y1 < q.y0) = false := decide_eq_false (by omega)
          clear i1 i2 i3 i4 i5 i6
          as_aux_lemma =>
            go_wp2_with fail
            refine wp_region_held_drew (S := fun W : World => Below wr.heap.size wr W) (by kernel_rfl) hS1 (fun hHeld => ?_)
            clear hHeld
            generalize wr.drew = wzx at *
            refine wpAnyH_take (i := 0) (oi := ⟨some 185, _, _, _, _, _⟩) (v := ?vx1) rfl (by kernel_rfl) (by kernel_rfl) (by kernel_rfl) (fun _ _ _ h => h) (Or.inl ⟨by kernel_rfl, ?hyx1⟩) (by assumption) ?restx1
            case hyx1 => (intro W hSw; (try dsimp only at hSw); go_simp; try with_reducible rfl)
            case' restx1 => try simp only [Act.put, List.setIfInBounds_toArray, List.set_cons_zero, List.set_cons_succ]
            refine wpAnyH_take (i := 1) (oi := ⟨some 186, _, _, _, _, _⟩) (v := ?vx2) rfl (by kernel_rfl) (by kernel_rfl) (by kernel_rfl) (fun _ _ _ h => h) (Or.inl ⟨by kernel_rfl, ?hyx2⟩) (by assumption) ?restx2
            case hyx2 => (intro W hSw; (try dsimp only at hSw); go_simp; try with_reducible rfl)
            case' restx2 => try simp only [Act.put, List.setIfInBounds_toArray, List.set_cons_zero, List.set_cons_succ]
            refine wpAnyH_take (i := 2) (oi := ⟨some 187, _, _, _, _, _⟩) (v := ?vx3) rfl (by kernel_rfl) (by kernel_rfl) (by kernel_rfl) (fun _ _ _ h => h) (Or.inl ⟨by kernel_rfl, ?hyx3⟩) (by assumption) ?restx3
            case hyx3 => (intro W hSw; (try dsimp only at hSw); go_simp; try with_reducible rfl)
            case' restx3 => try simp only [Act.put, List.setIfInBounds_toArray, List.set_cons_zero, List.set_cons_succ]
            refine wpAnyH_take (i := 3) (oi := ⟨some 188, _, _, _, _, _⟩) (v := ?vx4) rfl (by kernel_rfl) (by kernel_rfl) (by kernel_rfl) (fun _ _ _ h => h) (Or.inl ⟨by kernel_rfl, ?hyx4⟩) (by assumption) ?restx4
            case hyx4 => (intro W hSw; (try dsimp only at hSw); go_simp; try with_reducible rfl)
            case' restx4 => try simp only [Act.put, List.setIfInBounds_toArray, List.set_cons_zero, List.set_cons_succ]
            refine wpAnyH_take (i := 4) (oi := ⟨some 189, _, _, _, _, _⟩) (v := ?vx5) rfl (by kernel_rfl) (by kernel_rfl) (by kernel_rfl) (fun _ _ _ h => h) (Or.inl ⟨by kernel_rfl, ?hyx5⟩) (by assumption) ?restx5
            case hyx5 => (intro W hSw; obtain ⟨g0, g1, g2, g3⟩ := HB.out W hSw; obtain ⟨gw, gh⟩ := HGW.out W hSw; (try dsimp only at hSw); go_simp; try with_reducible rfl)
            case' restx5 => try simp only [Act.put, List.setIfInBounds_toArray, List.set_cons_zero, List.set_cons_succ]
            refine wpAnyH_take (i := 5) (oi := ⟨some 190, _, _, _, _, _⟩) (v := ?vx6) rfl (by kernel_rfl) (by kernel_rfl) (by kernel_rfl) (fun _ _ _ h => h) (Or.inl ⟨by kernel_rfl, ?hyx6⟩) (by assumption) ?restx6
            case hyx6 => (intro W hSw; (try dsimp only at hSw); go_simp; try with_reducible rfl)
            case' restx6 => try simp only [Act.put, List.setIfInBounds_toArray, List.set_cons_zero, List.set_cons_succ]
            refine wpAnyH_take (i := 6) (oi := ⟨some 191, _, _, _, _, _⟩) (v := ?vx7) rfl (by kernel_rfl) (by kernel_rfl) (by kernel_rfl) (fun _ _ _ h => h) (Or.inl ⟨by kernel_rfl, ?hyx7⟩) (by assumption) ?restx7
            case hyx7 => (intro W hSw; (try dsimp only at hSw); go_simp; try with_reducible rfl)
            case' restx7 => try simp only [Act.put, List.setIfInBounds_toArray, List.set_cons_zero, List.set_cons_succ]
            refine wpAnyH_take (i := 7) (oi := ⟨some 192, _, _, _, _, _⟩) (v := ?vx8) rfl (by kernel_rfl) (by kernel_rfl) (by kernel_rfl) (fun _ _ _ h => h) (Or.inl ⟨by kernel_rfl, ?hyx8⟩) (by assumption) ?restx8
            case hyx8 => (intro W hSw; (try dsimp only at hSw); go_simp; try with_reducible rfl)
            case' restx8 => try simp only [Act.put, List.setIfInBounds_toArray, List.set_cons_zero, List.set_cons_succ]
            refine wpAnyH_take (i := 8) (oi := ⟨some 193, _, _, _, _, _⟩) (v := ?vx9) rfl (by kernel_rfl) (by kernel_rfl) (by kernel_rfl) (fun _ _ _ h => h) (Or.inl ⟨by kernel_rfl, ?hyx9⟩) (by assumption) ?restx9
            case hyx9 => (intro W hSw; (try dsimp only at hSw); go_simp; try with_reducible rfl)
            case' restx9 => try simp only [Act.put, List.setIfInBounds_toArray, List.set_cons_zero, List.set_cons_succ]
            refine wpAnyH_take (i := 9) (oi := ⟨some 194, _, _, _, _, _⟩) (v := ?vx10) rfl (by kernel_rfl) (by kernel_rfl) (by kernel_rfl) (fun _ _ _ h => h) (Or.inl ⟨by kernel_rfl, ?hyx10⟩) (by assumption) ?restx10
            case hyx10 => (intro W hSw; (try dsimp only at hSw); go_simp; try with_reducible rfl)
            case' restx10 => try simp only [Act.put, List.setIfInBounds_toArray, List.set_cons_zero, List.set_cons_succ]
            refine wpAnyH_take (i := 10) (oi := ⟨some 195, _, _, _, _, _⟩) (v := ?vx11) rfl (by kernel_rfl) (by kernel_rfl) (by kernel_rfl) (fun _ _ _ h => h) (Or.inl ⟨by kernel_rfl, ?hyx11⟩) (by assumption) ?restx11
            case hyx11 => (intro W hSw; (try dsimp only at hSw); go_simp; try with_reducible rfl)
            case' restx11 => try simp only [Act.put, List.setIfInBounds_toArray, List.set_cons_zero, List.set_cons_succ]
            refine wpAnyH_take (i := 11) (oi := ⟨some 196, _, _, _, _, _⟩) (v := ?vx12) rfl (by kernel_rfl) (by kernel_rfl) (by kernel_rfl) (fun _ _ _ h => h) (Or.inl ⟨by kernel_rfl, ?hyx12⟩) (by assumption) ?restx12
            case hyx12 => (intro W hSw; obtain ⟨g0, g1, g2, g3⟩ := HB.out W hSw; obtain ⟨gw, gh⟩ := HGW.out W hSw; (try dsimp only at hSw); go_simp; try with_reducible rfl)
            case' restx12 => try simp only [Act.put, List.setIfInBounds_toArray, List.set_cons_zero, List.set_cons_succ]
            refine wpAnyH_take (i := 12) (oi := ⟨some 197, _, _, _, _, _⟩) (v := ?vx13) rfl (by kernel_rfl) (by kernel_rfl) (by kernel_rfl) (fun _ _ _ h => h) (Or.inl ⟨by kernel_rfl, ?hyx13⟩) (by assumption) ?restx13
            case hyx13 => (intro W hSw; (try dsimp only at hSw); go_simp; try with_reducible rfl)
            case' restx13 => try simp only [Act.put, List.setIfInBounds_toArray, List.set_cons_zero, List.set_cons_succ]
            refine wpAnyH_take (i := 13) (oi := ⟨some 198, _, _, _, _, _⟩) (v := ?vx14) rfl (by kernel_rfl) (by kernel_rfl) (by kernel_rfl) (fun _ _ _ h => h) (Or.inl ⟨by kernel_rfl, ?hyx14⟩) (by assumption) ?restx14
            case hyx14 => (intro W hSw; (try dsimp only at hSw); go_simp; try with_reducible rfl)
            case' restx14 => try simp only [Act.put, List.setIfInBounds_toArray, List.set_cons_zero, List.set_cons_succ]
            refine wpAnyH_take (i := 14) (oi := ⟨some 199, _, _, _, _, _⟩) (v := ?vx15) rfl (by kernel_rfl) (by kernel_rfl) (by kernel_rfl) (fun _ _ _ h => h) (Or.inl ⟨by kernel_rfl, ?hyx15⟩) (by assumption) ?restx15
            case hyx15 => (intro W hSw; (try dsimp only at hSw); go_simp; try with_reducible rfl)
            case' restx15 => try simp only [Act.put, List.setIfInBounds_toArray, List.set_cons_zero, List.set_cons_succ]
            refine wpAnyH_take (i := 15) (oi := ⟨some 200, _, _, _, _, _⟩) (v := ?vx16) rfl (by kernel_rfl) (by kernel_rfl) (by kernel_rfl) (fun _ _ _ h => h) (Or.inl ⟨by kernel_rfl, ?hyx16⟩) (by assumption) ?restx16
            case hyx16 => (intro W hSw; (try dsimp only at hSw); go_simp; try with_reducible rfl)
            case' restx16 => try simp only [Act.put, List.setIfInBounds_toArray, List.set_cons_zero, List.set_cons_succ]
            refine wpAnyH_take (i := 16) (oi := ⟨some 201, _, _, _, _, _⟩) (v := ?vx17) rfl (by kernel_rfl) (by kernel_rfl) (by kernel_rfl) (fun _ _ _ h => h) (Or.inl ⟨by kernel_rfl, ?hyx17⟩) (by assumption) ?restx17
            case hyx17 => (intro W hSw; (try dsimp only at hSw); go_simp; try with_reducible rfl)
            case' restx17 => try simp only [Act.put, List.setIfInBounds_toArray, List.set_cons_zero, List.set_cons_succ]
            refine wpAnyH_take (i := 17) (oi := ⟨some 202, _, _, _, _, _⟩) (v := ?vx18) rfl (by kernel_rfl) (by kernel_rfl) (by kernel_rfl) (fun _ _ _ h => h) (Or.inl ⟨by kernel_rfl, ?hyx18⟩) (by assumption) ?restx18
            case hyx18 => (intro W hSw; (try dsimp only at hSw); go_simp; try with_reducible rfl)
            case' restx18 => try simp only [Act.put, List.setIfInBounds_toArray, List.set_cons_zero, List.set_cons_succ]
            refine wpAnyH_take (i := 18) (oi := ⟨some 203, _, _, _, _, _⟩) (v := ?vx19) rfl (by kernel_rfl) (by kernel_rfl) (by kernel_rfl) (fun _ _ _ h => h) (Or.inl ⟨by kernel_rfl, ?hyx19⟩) (by assumption) ?restx19
            case hyx19 => (intro W hSw; (try dsimp only at hSw); go_simp; try with_reducible rfl)
            case' restx19 => try simp only [Act.put, List.setIfInBounds_toArray, List.set_cons_zero, List.set_cons_succ]
            refine wpAnyH_take (i := 19) (oi := ⟨some 204, _, _, _, _, _⟩) (v := ?vx20) rfl (by kernel_rfl) (by kernel_rfl) (by kernel_rfl) (fun _ _ _ h => h) (Or.inl ⟨by kernel_rfl, ?hyx20⟩) (by assumption) ?restx20
            case hyx20 => (intro W hSw; obtain ⟨g0, g1, g2, g3⟩ := HB.out W hSw; obtain ⟨gw, gh⟩ := HGW.out W hSw; (try dsimp only at hSw); go_simp; try with_reducible rfl)
            case' restx20 => try simp only [Act.put, List.setIfInBounds_toArray, List.set_cons_zero, List.set_cons_succ]
            refine wpAnyH_take (i := 20) (oi := ⟨some 205, _, _, _, _, _⟩) (v := ?vx21) rfl (by kernel_rfl) (by kernel_rfl) (by kernel_rfl) (fun _ _ _ h => h) (Or.inl ⟨by kernel_rfl, ?hyx21⟩) (by assumption) ?restx21
            case hyx21 => (intro W hSw; (try dsimp only at hSw); go_simp; try with_reducible rfl)
            case' restx21 => try simp only [Act.put, List.setIfInBounds_toArray, List.set_cons_zero, List.set_cons_succ]
            refine wpAnyH_take (i := 21) (oi := ⟨some 206, _, _, _, _, _⟩) (v := ?vx22) rfl (by kernel_rfl) (by kernel_rfl) (by kernel_rfl) (fun _ _ _ h => h) (Or.inl ⟨by kernel_rfl, ?hyx22⟩) (by assumption) ?restx22
            case hyx22 => (intro W hSw; (try dsimp only at hSw); go_simp; try with_reducible rfl)
            case' restx22 => try simp only [Act.put, List.setIfInBounds_toArray, List.set_cons_zero, List.set_cons_succ]
            refine wpAnyH_take (i := 22) (oi := ⟨some 207, _, _, _, _, _⟩) (v := ?vx23) rfl (by kernel_rfl) (by kernel_rfl) (by kernel_rfl) (fun _ _ _ h => h) (Or.inl ⟨by kernel_rfl, ?hyx23⟩) (by assumption) ?restx23
            case hyx23 => (intro W hSw; obtain ⟨g0, g1, g2, g3⟩ := HB.out W hSw; obtain ⟨gw, gh⟩ := HGW.out W hSw; (try dsimp only at hSw); go_simp; try with_reducible rfl)
            case' restx23 => try simp only [Act.put, List.setIfInBounds_toArray, List.set_cons_zero, List.set_cons_succ]
            refine wpAnyH_take (i := 23) (oi := ⟨some 208, _, _, _, _, _⟩) (v := ?vx24) rfl (by kernel_rfl) (by kernel_rfl) (by kernel_rfl) (fun _ _ _ h => h) (Or.inl ⟨by kernel_rfl, ?hyx24⟩) (by assumption) ?restx24
            case hyx24 => (intro W hSw; (try dsimp only at hSw); go_simp; try with_reducible rfl)
            case' restx24 => try simp only [Act.put, List.setIfInBounds_toArray, List.set_cons_zero, List.set_cons_succ]
            refine wpAnyH_take (i := 24) (oi := ⟨some 209, _, _, _, _, _⟩) (v := ?vx25) rfl (by kernel_rfl) (by kernel_rfl) (by kernel_rfl) (fun _ _ _ h => h) (Or.inl ⟨by kernel_rfl, ?hyx25⟩) (by assumption) ?restx25
            case hyx25 => (intro W hSw; (try dsimp only at hSw); go_simp; try with_reducible rfl)
            case' restx25 => try simp only [Act.put, List.setIfInBounds_toArray, List.set_cons_zero, List.set_cons_succ]
            refine wpAnyH_take (i := 25) (oi := ⟨some 210, _, _, _, _, _⟩) (v := ?vx26) rfl (by kernel_rfl) (by kernel_rfl) (by kernel_rfl) (fun _ _ _ h => h) (Or.inl ⟨by kernel_rfl, ?hyx26⟩) (by assumption) ?restx26
            case hyx26 => (intro W hSw; (try dsimp only at hSw); go_simp; try with_reducible rfl)
            case' restx26 => try simp only [Act.put, List.setIfInBounds_toArray, List.set_cons_zero, List.set_cons_succ]
            refine wpAnyH_take (i := 26) (oi := ⟨some 211, _, _, _, _, _⟩) (v := ?vx27) rfl (by kernel_rfl) (by kernel_rfl) (by kernel_rfl) (fun _ _ _ h => h) (Or.inl ⟨by kernel_rfl, ?hyx27⟩) (by assumption) ?restx27
            case hyx27 => (intro W hSw; (try dsimp only at hSw); go_simp; try with_reducible rfl)
            case' restx27 => try simp only [Act.put, List.setIfInBounds_toArray, List.set_cons_zero, List.set_cons_succ]
            refine wpAnyH_take (i := 27) (oi := ⟨some 212, _, _, _, _, _⟩) (v := ?vx28) rfl (by kernel_rfl) (by kernel_rfl) (by kernel_rfl) (fun _ _ _ h => h) (Or.inl ⟨by kernel_rfl, ?hyx28⟩) (by assumption) ?restx28
            case hyx28 => (intro W hSw; (try dsimp only at hSw); go_simp; try with_reducible rfl)
            case' restx28 => try simp only [Act.put, List.setIfInBounds_toArray, List.set_cons_zero, List.set_cons_succ]
            refine wpAnyH_take (i := 28) (oi := ⟨some 213, _, _, _, _, _⟩) (v := ?vx29) rfl (by kernel_rfl) (by kernel_rfl) (by kernel_rfl) (fun _ _ _ h => h) (Or.inl ⟨by kernel_rfl, ?hyx29⟩) (by assumption) ?restx29
            case hyx29 => (intro W hSw; (try dsimp only at hSw); go_simp; try with_reducible rfl)
            case' restx29 => try simp only [Act.put, List.setIfInBounds_toArray, List.set_cons_zero, List.set_cons_succ]
            refine wpAnyH_take (i := 29) (oi := ⟨some 214, _, _, _, _, _⟩) (v := ?vx30) rfl (by kernel_rfl) (by kernel_rfl) (by kernel_rfl) (fun _ _ _ h => h) (Or.inl ⟨by kernel_rfl, ?hyx30⟩) (by assumption) ?restx30
            case hyx30 => (intro W hSw; (try dsimp only at hSw); go_simp; try with_reducible rfl)
            case' restx30 => try simp only [Act.put, List.setIfInBounds_toArray, List.set_cons_zero, List.set_cons_succ]
            refine wpAnyH_take (i := 30) (oi := ⟨some 215, _, _, _, _, _⟩) (v := ?vx31) rfl (by kernel_rfl) (by kernel_rfl) (by kernel_rfl) (fun _ _ _ h => h) (Or.inl ⟨by kernel_rfl, ?hyx31⟩) (by assumption) ?restx31
            case hyx31 => (intro W hSw; obtain ⟨g0, g1, g2, g3⟩ := HB.out W hSw; obtain ⟨gw, gh⟩ := HGW.out W hSw; (try dsimp only at hSw); go_simp; try with_reducible rfl)
            case' restx31 => try simp only [Act.put, List.setIfInBounds_toArray, List.set_cons_zero, List.set_cons_succ]
            refine wpAnyH_take (i := 31) (oi := ⟨some 216, _, _, _, _, _⟩) (v := ?vx32) rfl (by kernel_rfl) (by kernel_rfl) (by kernel_rfl) (fun _ _ _ h => h) (Or.inl ⟨by kernel_rfl, ?hyx32⟩) (by assumption) ?restx32
            case hyx32 => (intro W hSw; (try dsimp only at hSw); go_simp; try with_reducible rfl)
            case' restx32 => try simp only [Act.put, List.setIfInBounds_toArray, List.set_cons_zero, List.set_cons_succ]
            refine wpAnyH_take (i := 32) (oi := ⟨some 217, _, _, _, _, _⟩) (v := ?vx33) rfl (by kernel_rfl) (by kernel_rfl) (by kernel_rfl) (fun _ _ _ h => h) (Or.inl ⟨by kernel_rfl, ?hyx33⟩) (by assumption) ?restx33
            case hyx33 => (intro W hSw; (try dsimp only at hSw); go_simp; try with_reducible rfl)
            case' restx33 => try simp only [Act.put, List.setIfInBounds_toArray, List.set_cons_zero, List.set_cons_succ]
            refine wpAnyH_take (i := 33) (oi := ⟨some 218, _, _, _, _, _⟩) (v := ?vx34) rfl (by kernel_rfl) (by kernel_rfl) (by kernel_rfl) (fun _ _ _ h => h) (Or.inl ⟨by kernel_rfl, ?hyx34⟩) (by assumption) ?restx34
            case hyx34 => (intro W hSw; obtain ⟨g0, g1, g2, g3⟩ := HB.out W hSw; obtain ⟨gw, gh⟩ := HGW.out W hSw; (try dsimp only at hSw); go_simp; try with_reducible rfl)
            case' restx34 => try simp only [Act.put, List.setIfInBounds_toArray, List.set_cons_zero, List.set_cons_succ]
            refine wpAnyH_take (i := 34) (oi := ⟨some 219, _, _, _, _, _⟩) (v := ?vx35) rfl (by kernel_rfl) (by kernel_rfl) (by kernel_rfl) (fun _ _ _ h => h) (Or.inl ⟨by kernel_rfl, ?hyx35⟩) (by assumption) ?restx35
            case hyx35 => (intro W hSw; (try dsimp only at hSw); go_simp; try with_reducible rfl)
            case' restx35 => try simp only [Act.put, List.setIfInBounds_toArray, List.set_cons_zero, List.set_cons_succ]
            refine wpAnyH_take (i := 35) (oi := ⟨some 220, _, _, _, _, _⟩) (v := ?vx36) rfl (by kernel_rfl) (by kernel_rfl) (by kernel_rfl) (fun _ _ _ h => h) (Or.inl ⟨by kernel_rfl, ?hyx36⟩) (by assumption) ?restx36
            case hyx36 => (intro W hSw; (try dsimp only at hSw); go_simp; try with_reducible rfl)
            case' restx36 => try simp only [Act.put, List.setIfInBounds_toArray, List.set_cons_zero, List.set_cons_succ]
            refine wpAnyH_take (i := 36) (oi := ⟨some 221, _, _, _, _, _⟩) (v := ?vx37) rfl (by kernel_rfl) (by kernel_rfl) (by kernel_rfl) (fun _ _ _ h => h) (Or.inl ⟨by kernel_rfl, ?hyx37⟩) (by assumption) ?restx37
            case hyx37 => (intro W hSw; (try dsimp only at hSw); go_simp; try with_reducible rfl)
            case' restx37 => try simp only [Act.put, List.setIfInBounds_toArray, List.set_cons_zero, List.set_cons_succ]
            refine wpAnyH_take (i := 37) (oi := ⟨some 222, _, _, _, _, _⟩) (v := ?vx38) rfl (by kernel_rfl) (by kernel_rfl) (by kernel_rfl) (fun _ _ _ h => h) (Or.inl ⟨by kernel_rfl, ?hyx38⟩) (by assumption) ?restx38
            case hyx38 => (intro W hSw; (try dsimp only at hSw); go_simp; try with_reducible rfl)
            case' restx38 => try simp only [Act.put, List.setIfInBounds_toArray, List.set_cons_zero, List.set_cons_succ]
            refine wpAnyH_take (i := 38) (oi := ⟨some 223, _, _, _, _, _⟩) (v := ?vx39) rfl (by kernel_rfl) (by kernel_rfl) (by kernel_rfl) (fun _ _ _ h => h) (Or.inl ⟨by kernel_rfl, ?hyx39⟩) (by assumption) ?restx39
            case hyx39 => (intro W hSw; (try dsimp only at hSw); go_simp; try with_reducible rfl)
            case' restx39 => try simp only [Act.put, List.setIfInBounds_toArray, List.set_cons_zero, List.set_cons_succ]
            refine wpAnyH_take (i := 39) (oi := ⟨some 224, _, _, _, _, _⟩) (v := ?vx40) rfl (by kernel_rfl) (by kernel_rfl) (by kernel_rfl) (fun _ _ _ h => h) (Or.inl ⟨by kernel_rfl, ?hyx40⟩) (by assumption) ?restx40
            case hyx40 => (intro W hSw; (try dsimp only at hSw); go_simp; try with_reducible rfl)
            case' restx40 => try simp only [Act.put, List.setIfInBounds_toArray, List.set_cons_zero, List.set_cons_succ]
            refine wpAnyH_take (i := 40) (oi := ⟨some 225, _, _, _, _, _⟩) (v := ?vx41) rfl (by kernel_rfl) (by kernel_rfl) (by kernel_rfl) (fun _ _ _ h => h) (Or.inl ⟨by kernel_rfl, ?hyx41⟩) (by assumption) ?restx41
            case hyx41 => (intro W hSw; (try dsimp only at hSw); go_simp; try with_reducible rfl)
            case' restx41 => try simp only [Act.put, List.setIfInBounds_toArray, List.set_cons_zero, List.set_cons_succ]
            refine wpAnyH_take (i := 41) (oi := ⟨some 226, _, _, _, _, _⟩) (v := ?vx42) rfl (by kernel_rfl) (by kernel_rfl) (by kernel_rfl) (fun _ _ _ h => h) (Or.inl ⟨by kernel_rfl, ?hyx42⟩) (by assumption) ?restx42
            case hyx42 => (intro W hSw; obtain ⟨g0, g1, g2, g3⟩ := HB.out W hSw; obtain ⟨gw, gh⟩ := HGW.out W hSw; (try dsimp only at hSw); go_simp; try with_reducible rfl)
            case' restx42 => try simp only [Act.put, List.setIfInBounds_toArray, List.set_cons_zero, List.set_cons_succ]
            refine wpAnyH_take (i := 42) (oi := ⟨some 227, _, _, _, _, _⟩) (v := ?vx43) rfl (by kernel_rfl) (by kernel_rfl) (by kernel_rfl) (fun _ _ _ h => h) (Or.inl ⟨by kernel_rfl, ?hyx43⟩) (by assumption) ?restx43
            case hyx43 => (intro W hSw; (try dsimp only at hSw); go_simp; try with_reducible rfl)
            case' restx43 => try simp only [Act.put, List.setIfInBounds_toArray, List.set_cons_zero, List.set_cons_succ]
            refine wpAnyH_take (i := 43) (oi := ⟨some 228, _, _, _, _, _⟩) (v := ?vx44) rfl (by kernel_rfl) (by kernel_rfl) (by kernel_rfl) (fun _ _ _ h => h) (Or.inl ⟨by kernel_rfl, ?hyx44⟩) (by assumption) ?restx44
            case hyx44 => (intro W hSw; (try dsimp only at hSw); go_simp; try with_reducible rfl)
            case' restx44 => try simp only [Act.put, List.setIfInBounds_toArray, List.set_cons_zero, List.set_cons_succ]
            refine wpAnyH_take (i := 44) (oi := ⟨some 229, _, _, _, _, _⟩) (v := ?vx45) rfl (by kernel_rfl) (by kernel_rfl) (by kernel_rfl) (fun _ _ _ h => h) (Or.inl ⟨by kernel_rfl, ?hyx45⟩) (by assumption) ?restx45
            case hyx45 => (intro W hSw; (try dsimp only at hSw); go_simp; try with_reducible rfl)
            case' restx45 => try simp only [Act.put, List.setIfInBounds_toArray, List.set_cons_zero, List.set_cons_succ]
            refine wpAnyH_take (i := 45) (oi := ⟨some 230, _, _, _, _, _⟩) (v := ?vx46) rfl (by kernel_rfl) (by kernel_rfl) (by kernel_rfl) (fun _ _ _ h => h) (Or.inl ⟨by kernel_rfl, ?hyx46⟩) (by assumption) ?restx46
            case hyx46 => (intro W hSw; (try dsimp only at hSw); go_simp; try with_reducible rfl)
            case' restx46 => try simp only [Act.put, List.setIfInBounds_toArray, List.set_cons_zero, List.set_cons_succ]
            refine wpAnyH_take (i := 46) (oi := ⟨some 231, _, _, _, _, _⟩) (v := ?vx47) rfl (by kernel_rfl) (by kernel_rfl) (by kernel_rfl) (fun _ _ _ h => h) (Or.inl ⟨by kernel_rfl, ?hyx47⟩) (by assumption) ?restx47
            case hyx47 => (intro W hSw; obtain ⟨g0, g1, g2, g3⟩ := HB.out W hSw; obtain ⟨gw, gh⟩ := HGW.out W hSw; (try dsimp only at hSw); go_simp; try with_reducible rfl)
            case' restx47 => try simp only [Act.put, List.setIfInBounds_toArray, List.set_cons_zero, List.set_cons_succ]
            refine wpAnyH_take (i := 47) (oi := ⟨some 232, _, _, _, _, _⟩) (v := ?vx48) rfl (by kernel_rfl) (by kernel_rfl) (by kernel_rfl) (fun _ _ _ h => h) (Or.inl ⟨by kernel_rfl, ?hyx48⟩) (by assumption) ?restx48
            case hyx48 => (intro W hSw; (try dsimp only at hSw); go_simp; try with_reducible rfl)
            case' restx48 => try simp only [Act.put, List.setIfInBounds_toArray, List.set_cons_zero, List.set_cons_succ]
            refine wpAnyH_take (i := 48) (oi := ⟨some 233, _, _, _, _, _⟩) (v := ?vx49) rfl (by kernel_rfl) (by kernel_rfl) (by kernel_rfl) (fun _ _ _ h => h) (Or.inl ⟨by kernel_rfl, ?hyx49⟩) (by assumption) ?restx49
            case hyx49 => (intro W hSw; (try dsimp only at hSw); go_simp; try with_reducible rfl)
            case' restx49 => try simp only [Act.put, List.setIfInBounds_toArray, List.set_cons_zero, List.set_cons_succ]
            refine wpAnyH_take (i := 49) (oi := ⟨some 234, _, _, _, _, _⟩) (v := ?vx50) rfl (by kernel_rfl) (by kernel_rfl) (by kernel_rfl) (fun _ _ _ h => h) (Or.inl ⟨by kernel_rfl, ?hyx50⟩) (by assumption) ?restx50
            case hyx50 => (intro W hSw; (try dsimp only at hSw); go_simp; try with_reducible rfl)
            case' restx50 => try simp only [Act.put, List.setIfInBounds_toArray, List.set_cons_zero, List.set_cons_succ]
            refine wpAnyH_take (i := 50) (oi := ⟨some 235, _, _, _, _, _⟩) (v := ?vx51) rfl (by kernel_rfl) (by kernel_rfl) (by kernel_rfl) (fun _ _ _ h => h) (Or.inl ⟨by kernel_rfl, ?hyx51⟩) (by assumption) ?restx51
            case hyx51 => (intro W hSw; (try dsimp only at hSw); go_simp; try with_reducible rfl)
            case' restx51 => try simp only [Act.put, List.setIfInBounds_toArray, List.set_cons_zero, List.set_cons_succ]
            refine wpAnyH_take (i := 51) (oi := ⟨some 236, _, _, _, _, _⟩) (v := ?vx52) rfl (by kernel_rfl) (by kernel_rfl) (by kernel_rfl) (fun _ _ _ h => h) (Or.inl ⟨by kernel_rfl, ?hyx52⟩) (by assumption) ?restx52
            case hyx52 => (intro W hSw; (try dsimp only at hSw); go_simp; try with_reducible rfl)
            case' restx52 => try simp only [Act.put, List.setIfInBounds_toArray, List.set_cons_zero, List.set_cons_succ]
            refine wpAnyH_take (i := 52) (oi := ⟨some 237, _, _, _, _, _⟩) (v := ?vx53) rfl (by kernel_rfl) (by kernel_rfl) (by kernel_rfl) (fun _ _ _ h => h) (Or.inl ⟨by kernel_rfl, ?hyx53⟩) (by assumption) ?restx53
            case hyx53 => (intro W hSw; (try dsimp only at hSw); go_simp; try with_reducible rfl)
            case' restx53 => try simp only [Act.put, List.setIfInBounds_toArray, List.set_cons_zero, List.set_cons_succ]
            refine wpAnyH_take (i := 53) (oi := ⟨some 238, _, _, _, _, _⟩) (v := ?vx54) rfl (by kernel_rfl) (by kernel_rfl) (by kernel_rfl) (fun _ _ _ h => h) (Or.inl ⟨by kernel_rfl, ?hyx54⟩) (by assumption) ?restx54
            case hyx54 => (intro W hSw; (try dsimp only at hSw); go_simp; try with_reducible rfl)
            case' restx54 => try simp only [Act.put, List.setIfInBounds_toArray, List.set_cons_zero, List.set_cons_succ]
            refine wpAnyH_take (i := 54) (oi := ⟨some 239, _, _, _, _, _⟩) (v := ?vx55) rfl (by kernel_rfl) (by kernel_rfl) (by kernel_rfl) (fun _ _ _ h => h) (Or.inl ⟨by kernel_rfl, ?hyx55⟩) (by assumption) ?restx55
            case hyx55 => (intro W hSw; obtain ⟨g0, g1, g2, g3⟩ := HB.out W hSw; obtain ⟨gw, gh⟩ := HGW.out W hSw; (try dsimp only at hSw); go_simp; try with_reducible rfl)
            case' restx55 => try simp only [Act.put, List.setIfInBounds_toArray, List.set_cons_zero, List.set_cons_succ]
            refine wpAnyH_take (i := 55) (oi := ⟨some 240, _, _, _, _, _⟩) (v := ?vx56) rfl (by kernel_rfl) (by kernel_rfl) (by kernel_rfl) (fun _ _ _ h => h) (Or.inl ⟨by kernel_rfl, ?hyx56⟩) (by assumption) ?restx56
            case hyx56 => (intro W hSw; (try dsimp only at hSw); go_simp; try with_reducible rfl)
            case' restx56 => try simp only [Act.put, List.setIfInBounds_toArray, List.set_cons_zero, List.set_cons_succ]
            refine wpAnyH_take (i := 56) (oi := ⟨some 241, _, _, _, _, _⟩) (v := ?vx57) rfl (by kernel_rfl) (by kernel_rfl) (by kernel_rfl) (fun _ _ _ h => h) (Or.inl ⟨by kernel_rfl, ?hyx57⟩) (by assumption) ?restx57
            case hyx57 => (intro W hSw; (try dsimp only at hSw); go_simp; try with_reducible rfl)
            case' restx57 => try simp only [Act.put, List.setIfInBounds_toArray, List.set_cons_zero, List.set_cons_succ]
            refine wpAnyH_take (i := 57) (oi := ⟨some 242, _, _, _, _, _⟩) (v := ?vx58) rfl (by kernel_rfl) (by kernel_rfl) (by kernel_rfl) (fun _ _ _ h => h) (Or.inl ⟨by kernel_rfl, ?hyx58⟩) (by assumption) ?restx58
            case hyx58 => (intro W hSw; (try dsimp only at hSw); go_simp; try with_reducible rfl)
            case' restx58 => try simp only [Act.put, List.setIfInBounds_toArray, List.set_cons_zero, List.set_cons_succ]
            refine wpAnyH_take (i := 58) (oi := ⟨some 243, _, _, _, _, _⟩) (v := ?vx59) rfl (by kernel_rfl) (by kernel_rfl) (by kernel_rfl) (fun _ _ _ h => h) (Or.inl ⟨by kernel_rfl, ?hyx59⟩) (by assumption) ?restx59
            case hyx59 => (intro W hSw; (try dsimp only at hSw); go_simp; try with_reducible rfl)
            case' restx59 => try simp only [Act.put, List.setIfInBounds_toArray, List.set_cons_zero, List.set_cons_succ]
            refine wpAnyH_take (i := 59) (oi := ⟨some 244, _, _, _, _, _⟩) (v := ?vx60) rfl (by kernel_rfl) (by kernel_rfl) (by kernel_rfl) (fun _ _ _ h => h) (Or.inl ⟨by kernel_rfl, ?hyx60⟩) (by assumption) ?restx60
            case hyx60 => (intro W hSw; obtain ⟨g0, g1, g2, g3⟩ := HB.out W hSw; obtain ⟨gw, gh⟩ := HGW.out W hSw; (try dsimp only at hSw); go_simp; try with_reducible rfl)
            case' restx60 => try simp only [Act.put, List.setIfInBounds_toArray, List.set_cons_zero, List.set_cons_succ]
            refine wpAnyH_take (i := 60) (oi := ⟨some 245, _, _, _, _, _⟩) (v := ?vx61) rfl (by kernel_rfl) (by kernel_rfl) (by kernel_rfl) (fun _ _ _ h => h) (Or.inl ⟨by kernel_rfl, ?hyx61⟩) (by assumption) ?restx61
            case hyx61 => (intro W hSw; (try dsimp only at hSw); go_simp; try with_reducible rfl)
            case' restx61 => try simp only [Act.put, List.setIfInBounds_toArray, List.set_cons_zero, List.set_cons_succ]
            refine wpAnyH_take (i := 61) (oi := ⟨some 246, _, _, _, _, _⟩) (v := ?vx62) rfl (by kernel_rfl) (by kernel_rfl) (by kernel_rfl) (fun _ _ _ h => h) (Or.inl ⟨by kernel_rfl, ?hyx62⟩) (by assumption) ?restx62
            case hyx62 => (intro W hSw; (try dsimp only at hSw); go_simp; try with_reducible rfl)
            case' restx62 => try simp only [Act.put, List.setIfInBounds_toArray, List.set_cons_zero, List.set_cons_succ]
            refine wpAnyH_done (by kernel_rfl) ?_ _
            go_wp2
            go_roundw
            case rel => exact ⟨k + 1, by omega, by go_num, hbi.trans (hS1.mono hbi.size)⟩
            case measure => simp [intOf]; omega
        · have hdk : decide (k < l1.length) = false := decide_eq_false hlk
          go_wp2_with fail
          refine (awake_any _).mono ?_
          rintro e wz ⟨rfl, hz⟩
          have kz := kk.trans (hz.mono kk.size)
          go_wp2
          go_ret
          exact RetV.bool rfl (k5.trans (kz.mono k5.size))
end Go.Proofs
