/- Points: what two segments of one line have in common. -/
import Derived.Test.YtafaojmkbbhjmaaG3
import Derived.Deep.DeepCutAuto
set_option linter.unusedVariables false
set_option linter.unusedSimpArgs false
namespace Go.Proofs
open Go.RowKit Go.Proofs.Mp

/-- block n holds a point -/
def BoxP (W : World) (n : Nat) (p : Pt) : Prop := W.heap[n]? = some (.cells #[.int .i64 p.1, .int .i64 p.2] 32 (0, 0))
section
variable {W W' : World} {n m : Nat} {p q : Pt}
theorem BoxP.lt (h : BoxP W n p) : n < W.heap.size := (Array.getElem?_eq_some_iff.1 h).1
theorem BoxP.c0 (h : BoxP W n p) : W.cell? ⟨n, 0, none⟩ = some (.int .i64 p.1) := by rw [cell_of_row _ _ _ _ _ _ h]; rfl
theorem BoxP.c1 (h : BoxP W n p) : W.cell? ⟨n, 1, none⟩ = some (.int .i64 p.2) := by rw [cell_of_row _ _ _ _ _ _ h]; rfl
theorem BoxP.f0 (h : BoxP W n p) : W.frozen? ⟨n, 0, none⟩ = false := frozen_of_row W n 0 _ 32 h
theorem BoxP.f1 (h : BoxP W n p) : W.frozen? ⟨n, 1, none⟩ = false := frozen_of_row W n 1 _ 32 h
theorem BoxP.below (h : BoxP W n p) (hb : Below W.heap.size W W') : BoxP W' n p := (hb.block n h.lt).trans h
theorem BoxP.alloc (h : BoxP W n p) (o : Obj) : BoxP (W.alloc o) n p := h.below (bw1 _ _)
theorem BoxP.new (W : World) (p : Pt) : BoxP (W.alloc (.cells #[.int .i64 p.1, .int .i64 p.2] 32)) W.heap.size p := heap_alloc_new W _
/-- two stores turn the point of block n -/
def setP (W : World) (n : Nat) (q : Pt) : World := (W.setCell ⟨n, 0, none⟩ (.int .i64 q.1)).setCell ⟨n, 1, none⟩ (.int .i64 q.2)
theorem BoxP.set (h : BoxP W n p) (q : Pt) : BoxP (setP W n q) n q := by
  have h1 := heap_setCell_same W n 0 _ 32 (.int .i64 q.1) h
  have h2 := heap_setCell_same (W.setCell ⟨n, 0, none⟩ (.int .i64 q.1)) n 1 _ 32 (.int .i64 q.2) h1
  unfold BoxP setP
  rw [h2]
  rfl
theorem BoxP.other (h : BoxP W n p) (hne : n ≠ m) (q : Pt) : BoxP (setP W m q) n p := by
  unfold BoxP setP
  rw [heap_setCell_other _ _ _ _ (by simpa using hne), heap_setCell_other _ _ _ _ (by simpa using hne)]
  exact h
theorem setP_size : (setP W m q).heap.size = W.heap.size := by simp [setP, World.setCell]
theorem below_setP {w : World} {B : Nat} (h : Below B w W) (hm : B ≤ m) : Below B w (setP W m q) := (h.setCell (p := ⟨m, 0, none⟩) hm _).setCell (p := ⟨m, 1, none⟩) hm _
end
/-- four boxes from n on -/
def Q4 (w W : World) (p q r s : Pt) : Prop := BoxP W w.heap.size p ∧ BoxP W (w.heap.size + 1) q ∧ BoxP W (w.heap.size + 1 + 1) r ∧ BoxP W (w.heap.size + 1 + 1 + 1) s ∧ Below w.heap.size w W
theorem Q4.begin (w : World) (a b c d : Pt) : Q4 w ((((w.alloc (.cells #[.int .i64 a.1, .int .i64 a.2] 32)).alloc (.cells #[.int .i64 b.1, .int .i64 b.2] 32)).alloc (.cells #[.int .i64 c.1, .int .i64 c.2] 32)).alloc (.cells #[.int .i64 d.1, .int .i64 d.2] 32)) a b c d := by
  have s1 : (w.alloc (.cells #[.int .i64 a.1, .int .i64 a.2] 32)).heap.size = w.heap.size + 1 := by simp
  have s2 : ((w.alloc (.cells #[.int .i64 a.1, .int .i64 a.2] 32)).alloc (.cells #[.int .i64 b.1, .int .i64 b.2] 32)).heap.size = w.heap.size + 1 + 1 := by simp
  have s3 : (((w.alloc (.cells #[.int .i64 a.1, .int .i64 a.2] 32)).alloc (.cells #[.int .i64 b.1, .int .i64 b.2] 32)).alloc (.cells #[.int .i64 c.1, .int .i64 c.2] 32)).heap.size = w.heap.size + 1 + 1 + 1 := by simp
  refine ⟨(((BoxP.new w a).alloc _).alloc _).alloc _, ?_, ?_, ?_, ?_⟩
  · rw [← s1]; exact ((BoxP.new _ b).alloc _).alloc _
  · rw [← s2]; exact (BoxP.new _ c).alloc _
  · rw [← s3]; exact BoxP.new _ d
  · exact (bw3 w _ _ _).trans ((bw1 _ _).mono (bw3 w _ _ _).size)
theorem Q4.below {w W W' : World} {p q r s : Pt} (h : Q4 w W p q r s) (hb : Below W.heap.size W W') : Q4 w W' p q r s := by
  obtain ⟨h1, h2, h3, h4, h5⟩ := h
  exact ⟨h1.below hb, h2.below hb, h3.below hb, h4.below hb, below_step' h5 hb⟩
where
  below_step' {w W W' : World} (h : Below w.heap.size w W) (hb : Below W.heap.size W W') : Below w.heap.size w W' := h.trans (hb.mono h.size)
theorem Q4.swap1 {w W : World} {p q r s : Pt} (h : Q4 w W p q r s) : Q4 w (setP (setP W w.heap.size q) (w.heap.size + 1) p) q p r s := by
  obtain ⟨h1, h2, h3, h4, h5⟩ := h
  exact ⟨(h1.set q).other (by omega) p, (h2.other (by omega) q).set p, (h3.other (by omega) _).other (by omega) _, (h4.other (by omega) _).other (by omega) _, below_setP (below_setP h5 (by omega)) (by omega)⟩
theorem Q4.swap2 {w W : World} {p q r s : Pt} (h : Q4 w W p q r s) : Q4 w (setP (setP W (w.heap.size + 1 + 1) s) (w.heap.size + 1 + 1 + 1) r) p q s r := by
  obtain ⟨h1, h2, h3, h4, h5⟩ := h
  exact ⟨(h1.other (by omega) _).other (by omega) _, (h2.other (by omega) _).other (by omega) _, (h3.set s).other (by omega) _, (h4.other (by omega) _).set _, below_setP (below_setP h5 (by omega)) (by omega)⟩
/-- what a walk needs of a box -/
def Cel (W : World) (n : Nat) (p : Pt) : Prop := W.cell? ⟨n, 0, none⟩ = some (.int .i64 p.1) ∧ W.cell? ⟨n, 1, none⟩ = some (.int .i64 p.2) ∧ W.frozen? ⟨n, 0, none⟩ = false ∧ W.frozen? ⟨n, 1, none⟩ = false ∧ n < W.heap.size
theorem BoxP.cel {W : World} {n : Nat} {p : Pt} (h : BoxP W n p) : Cel W n p := ⟨h.c0, h.c1, h.f0, h.f1, h.lt⟩

def sortP (a b : Pt) : Pt × Pt := if befB b a = true then (b, a) else (a, b)
def sharedN (a b c d : Pt) : Int :=
  let x := sortP a b
  let y := sortP c d
  let f := if befB x.1 y.1 = true then y.1 else x.1
  let l := if befB y.2 x.2 = true then y.2 else x.2
  if f = l then 1 else if befB f l = true then 2 else 0

/-- six boxes: the first four from w on, two more -/
def Q6 (w W : World) (n m : Nat) (p q r s f l : Pt) : Prop := BoxP W w.heap.size p ∧ BoxP W (w.heap.size + 1) q ∧ BoxP W (w.heap.size + 1 + 1) r ∧ BoxP W (w.heap.size + 1 + 1 + 1) s ∧ BoxP W n f ∧ BoxP W m l ∧ Below w.heap.size w W ∧ n ≠ m ∧ w.heap.size + 4 ≤ n ∧ w.heap.size + 4 ≤ m
theorem Q6.below {w W W' : World} {n m : Nat} {p q r s f l : Pt} (h : Q6 w W n m p q r s f l) (hb : Below W.heap.size W W') : Q6 w W' n m p q r s f l := by
  obtain ⟨h1, h2, h3, h4, h5, h6, h7, h8⟩ := h
  exact ⟨h1.below hb, h2.below hb, h3.below hb, h4.below hb, h5.below hb, h6.below hb, h7.trans (hb.mono h7.size), h8⟩
theorem Q6.setf {w W : World} {n m : Nat} {p q r s f l : Pt} (h : Q6 w W n m p q r s f l) (x : Pt) : Q6 w (setP W n x) n m p q r s x l := by
  obtain ⟨h1, h2, h3, h4, h5, h6, h7, h8, h9, h10⟩ := h
  exact ⟨h1.other (by omega) _, h2.other (by omega) _, h3.other (by omega) _, h4.other (by omega) _, h5.set _, h6.other (by omega) _, below_setP h7 (by omega), h8, h9, h10⟩
theorem Q6.setl {w W : World} {n m : Nat} {p q r s f l : Pt} (h : Q6 w W n m p q r s f l) (x : Pt) : Q6 w (setP W m x) n m p q r s f x := by
  obtain ⟨h1, h2, h3, h4, h5, h6, h7, h8, h9, h10⟩ := h
  exact ⟨h1.other (by omega) _, h2.other (by omega) _, h3.other (by omega) _, h4.other (by omega) _, h5.other (by omega) _, h6.set _, below_setP h7 (by omega), h8, h9, h10⟩

theorem Q6.mk {w W W' : World} {p q r s f l : Pt} (h : Q4 w W p q r s) (hb : Below W.heap.size W W') (n m : Nat) (hf : BoxP W' n f) (hl : BoxP W' m l) (hne : n ≠ m) (h1 : W.heap.size ≤ n) (h2 : W.heap.size ≤ m) : Q6 w W' n m p q r s f l := by
  have := h.2.2.2.1.lt
  obtain ⟨g1, g2, g3, g4, g5⟩ := h.below hb
  exact ⟨g1, g2, g3, g4, hf, hl, g5, hne, by omega, by omega⟩
theorem Q6.ab {w W : World} {p q r s : Pt} (f l : Pt) (h : Q4 w W p q r s) : Q6 w ((W.alloc (.cells #[.int .i64 f.1, .int .i64 f.2] 32)).alloc (.cells #[.int .i64 l.1, .int .i64 l.2] 32)).drew W.heap.size (W.heap.size + 1) p q r s f l := by
  refine Q6.mk h ?_ _ _ ?_ ?_ (by omega) (by omega) (by omega)
  · exact below_drewN (((Below.refl W.heap.size W).alloc (Nat.le_refl _) _).alloc (by simp) _) 1
  · exact (BoxP.new W f).alloc _
  · have := BoxP.new (W.alloc (.cells #[.int .i64 f.1, .int .i64 f.2] 32)) l
    rw [show (W.alloc (.cells #[.int .i64 f.1, .int .i64 f.2] 32)).heap.size = W.heap.size + 1 by simp] at this
    exact this
theorem Q6.ba {w W : World} {p q r s : Pt} (f l : Pt) (h : Q4 w W p q r s) : Q6 w ((W.alloc (.cells #[.int .i64 l.1, .int .i64 l.2] 32)).alloc (.cells #[.int .i64 f.1, .int .i64 f.2] 32)).drew (W.heap.size + 1) W.heap.size p q r s f l := by
  refine Q6.mk h ?_ _ _ ?_ ?_ (by omega) (by omega) (by omega)
  · exact below_drewN (((Below.refl W.heap.size W).alloc (Nat.le_refl _) _).alloc (by simp) _) 1
  · have := BoxP.new (W.alloc (.cells #[.int .i64 l.1, .int .i64 l.2] 32)) f
    rw [show (W.alloc (.cells #[.int .i64 l.1, .int .i64 l.2] 32)).heap.size = W.heap.size + 1 by simp] at this
    exact this
  · exact (BoxP.new W l).alloc _
theorem Try.eql32 (x1 x2 y1 y2 : Int) (W : World) : (binOp .eql 32 (.agg #[.int .i64 x1, .int .i64 x2]) (.agg #[.int .i64 y1, .int .i64 y2])).run Try.prog W = .ok (.bool (decide ((x1, x2) = (y1, y2)))) W := by
  have u3 := Try.underlying3
  have a3 := Try.isAgg3
  have z3 := Try.sizeOf3
  have hS : Try.prog.underlying 32 = some (.struct (Try.prog.fieldsOf 32)) := by kernel_rfl
  have hp : Try.prog.stoodInHeld 32 = false := by kernel_rfl
  rw [run_eql_struct, show (10000 : Nat) = 9999 + 1 from rfl, run_equalIn_agg W 9999 32 _ _ hS hp]
  simp only [Program.fieldsOf, Try.underlying32]
  go_simp
  by_cases h1 : x1 = y1 <;> by_cases h2 : x2 = y2 <;> simp [h1, h2]
theorem Try.guard32 : Try.prog.eqGuardType Try.prog.depth 32 = false := by kernel_rfl

set_option maxHeartbeats 4000000 in
theorem geom_shared (a b c d : Pt) (w : World) : Calls Try.prog 56 #[aggP a, aggP b, aggP c, aggP d] w (RetV w (.int .i64 (sharedN a b c d))) := by
  have cB := Lib.hid fun (p1 p2 q1 q2 : Int) W => geom_before (p1, p2) (q1, q2) W
  obtain ⟨a1, a2⟩ := a
  obtain ⟨b1, b2⟩ := b
  obtain ⟨c1, c2⟩ := c
  obtain ⟨d1, d2⟩ := d
  unfold aggP at *
  dsimp only at *
  have hq := Q4.begin w (a1, a2) (b1, b2) (c1, c2) (d1, d2)
  generalize hn : sharedN (a1, a2) (b1, b2) (c1, c2) (d1, d2) = N
  have HN := Lib.hid hn
  clear hn
  go_enter Try.func56, Try.ntmps56
  go_upto_region 1 with fail
  dsimp only at hq
  generalize ((((w.alloc (.cells #[.int .i64 a1, .int .i64 a2] 32)).alloc (.cells #[.int .i64 b1, .int .i64 b2] 32)).alloc (.cells #[.int .i64 c1, .int .i64 c2] 32)).alloc (.cells #[.int .i64 d1, .int .i64 d2] 32)) = w1 at *
  obtain ⟨k1, k2, f1, f2, l1⟩ := hq.1.cel
  obtain ⟨k3, k4, f3, f4, l2⟩ := hq.2.1.cel
  dsimp only at k1 k2 k3 k4
  go_wp2_with fail
  refine (cB.out _ _ _ _ _).mono ?_
  rintro e w2 ⟨rfl, hb⟩
  have hq2 := hq.below hb
  clear k1 k2 f1 f2 l1 k3 k4 f3 f4 l2 hq hb
  go_upto_if 13 with fail
  generalize hz : befB (b1, b2) (a1, a2) = z
  have HZ := Lib.hid hz
  clear hz
  go_cut [] (fun wx => ∃ p1 p2 q1 q2, Hid (sortP (a1, a2) (b1, b2) = ((p1, p2), (q1, q2))) ∧ Q4 w wx (p1, p2) (q1, q2) (c1, c2) (d1, d2))
  case first =>
    obtain ⟨k1, k2, f1, f2, l1⟩ := hq2.1.cel
    obtain ⟨k3, k4, f3, f4, l2⟩ := hq2.2.1.cel
    dsimp only at k1 k2 k3 k4
    cases z
    · go_wp2_with fail
      go_meet
      exact ⟨a1, a2, b1, b2, Lib.hid (by unfold sortP; rw [HZ.out]; rfl), hq2⟩
    · go_wp2_with fail
      go_meet
      exact ⟨b1, b2, a1, a2, Lib.hid (by unfold sortP; rw [HZ.out]; rfl), hq2.swap1⟩
  case rest =>
    obtain ⟨p1, p2, q1, q2, HS, hq3⟩ := hcut
    clear hq2 HZ
    obtain ⟨k1, k2, f1, f2, l1⟩ := hq3.2.2.1.cel
    obtain ⟨k3, k4, f3, f4, l2⟩ := hq3.2.2.2.1.cel
    dsimp only at k1 k2 k3 k4
    go_wp2_with fail
    refine (cB.out _ _ _ _ _).mono ?_
    rintro e w4 ⟨rfl, hb⟩
    have hq4 := hq3.below hb
    clear k1 k2 f1 f2 l1 k3 k4 f3 f4 l2 hq3 hb
    go_upto_if 18 with fail
    generalize hz : befB (d1, d2) (c1, c2) = z
    have HZ := Lib.hid hz
    clear hz
    go_cut [] (fun wx => ∃ r1 r2 s1 s2, Hid (sortP (c1, c2) (d1, d2) = ((r1, r2), (s1, s2))) ∧ Q4 w wx (p1, p2) (q1, q2) (r1, r2) (s1, s2))
    case first =>
      obtain ⟨k1, k2, f1, f2, l1⟩ := hq4.2.2.1.cel
      obtain ⟨k3, k4, f3, f4, l2⟩ := hq4.2.2.2.1.cel
      dsimp only at k1 k2 k3 k4
      cases z
      · go_wp2_with fail
        go_meet
        exact ⟨c1, c2, d1, d2, Lib.hid (by unfold sortP; rw [HZ.out]; rfl), hq4⟩
      · go_wp2_with fail
        go_meet
        exact ⟨d1, d2, c1, c2, Lib.hid (by unfold sortP; rw [HZ.out]; rfl), hq4.swap2⟩
    case rest =>
      obtain ⟨r1, r2, s1, s2, HS2, hq5⟩ := hcut
      clear hq4 HZ
      go_upto_region 5 with fail
      go_cut [9, 10] (fun v9 v10 wx => ∃ n m, v9 = .pointer (some ⟨n, 0, none⟩) ∧ v10 = .pointer (some ⟨m, 0, none⟩) ∧ Q6 w wx n m (p1, p2) (q1, q2) (r1, r2) (s1, s2) (p1, p2) (q1, q2))
      case first =>
        obtain ⟨k1, k2, f1, f2, l1⟩ := hq5.1.cel
        obtain ⟨k3, k4, f3, f4, l2⟩ := hq5.2.1.cel
        dsimp only at k1 k2 k3 k4
        go_region
        all_goals
          go_wp2_with fail
          go_meet
          first | exact ⟨_, _, rfl, rfl, Q6.ab (p1, p2) (q1, q2) hq5⟩ | exact ⟨_, _, rfl, rfl, Q6.ba (p1, p2) (q1, q2) hq5⟩
      case rest =>
        obtain ⟨n, m, rfl, rfl, hq6⟩ := hcut
        clear hq5
        obtain ⟨k1, k2, f1, f2, l1⟩ := hq6.2.2.2.2.1.cel
        obtain ⟨k3, k4, f3, f4, l2⟩ := hq6.2.2.1.cel
        dsimp only at k1 k2 k3 k4
        go_wp2_with fail
        refine (cB.out _ _ _ _ _).mono ?_
        rintro e w7 ⟨rfl, hb⟩
        have hq7 := hq6.below hb
        clear k1 k2 f1 f2 l1 k3 k4 f3 f4 l2 hq6 hb
        go_upto_if 25 with fail
        generalize hz : befB (p1, p2) (r1, r2) = z
        have HZ := Lib.hid hz
        clear hz
        go_cut [] (fun wx => ∃ x1 x2, Hid ((if befB (p1, p2) (r1, r2) = true then (r1, r2) else (p1, p2)) = (x1, x2)) ∧ Q6 w wx n m (p1, p2) (q1, q2) (r1, r2) (s1, s2) (x1, x2) (q1, q2))
        case first =>
          obtain ⟨k1, k2, f1, f2, l1⟩ := hq7.2.2.1.cel
          obtain ⟨k3, k4, f3, f4, l2⟩ := hq7.2.2.2.2.1.cel
          dsimp only at k1 k2 k3 k4
          cases z
          · go_wp2_with fail
            go_meet
            exact ⟨p1, p2, Lib.hid (by rw [HZ.out]; rfl), hq7⟩
          · go_wp2_with fail
            go_meet
            exact ⟨r1, r2, Lib.hid (by rw [HZ.out]; rfl), hq7.setf (r1, r2)⟩
        case rest =>
          obtain ⟨x1, x2, HF, hq8⟩ := hcut
          clear hq7 HZ
          obtain ⟨k1, k2, f1, f2, l1⟩ := hq8.2.2.2.1.cel
          obtain ⟨k3, k4, f3, f4, l2⟩ := hq8.2.2.2.2.2.1.cel
          dsimp only at k1 k2 k3 k4
          go_wp2_with fail
          refine (cB.out _ _ _ _ _).mono ?_
          rintro e w9 ⟨rfl, hb⟩
          have hq9 := hq8.below hb
          clear k1 k2 f1 f2 l1 k3 k4 f3 f4 l2 hq8 hb
          go_upto_if 29 with fail
          generalize hz : befB (s1, s2) (q1, q2) = z
          have HZ := Lib.hid hz
          clear hz
          go_cut [] (fun wx => ∃ y1 y2, Hid ((if befB (s1, s2) (q1, q2) = true then (s1, s2) else (q1, q2)) = (y1, y2)) ∧ Q6 w wx n m (p1, p2) (q1, q2) (r1, r2) (s1, s2) (x1, x2) (y1, y2))
          case first =>
            obtain ⟨k1, k2, f1, f2, l1⟩ := hq9.2.2.2.1.cel
            obtain ⟨k3, k4, f3, f4, l2⟩ := hq9.2.2.2.2.2.1.cel
            dsimp only at k1 k2 k3 k4
            cases z
            · go_wp2_with fail
              go_meet
              exact ⟨q1, q2, Lib.hid (by rw [HZ.out]; rfl), hq9⟩
            · go_wp2_with fail
              go_meet
              exact ⟨s1, s2, Lib.hid (by rw [HZ.out]; rfl), hq9.setl (s1, s2)⟩
          case rest =>
            obtain ⟨y1, y2, HL, hq10⟩ := hcut
            clear hq9 HZ
            obtain ⟨k1, k2, f1, f2, l1⟩ := hq10.2.2.2.2.1.cel
            obtain ⟨k3, k4, f3, f4, l2⟩ := hq10.2.2.2.2.2.1.cel
            dsimp only at k1 k2 k3 k4
            have hres : N = if ((x1, x2) : Pt) = (y1, y2) then 1 else if befB (x1, x2) (y1, y2) = true then 2 else 0 := by
              rw [← HN.out]
              unfold sharedN
              simp only [HS.out, HS2.out, HF.out, HL.out]
            have h0 := hq10.2.2.2.2.2.2.1
            clear HS HS2 HF HL hq10 HN
            have HR := Lib.hid hres
            clear hres
            have hG := Try.guard32
            have hN := fun W => Try.eql32 x1 x2 y1 y2 W
            by_cases e1 : ((x1, x2) : Pt) = (y1, y2)
            · have HR2 := Lib.hid (HR.out.trans (if_pos e1))
              rw [decide_eq_true e1] at hN
              clear HR e1
              go_wp2
              go_ret
              exact RetV.int HR2.out.symm h0
            · have HR2 := Lib.hid (HR.out.trans (if_neg e1))
              rw [decide_eq_false e1] at hN
              clear HR e1
              go_wp2_with fail
              refine (cB.out _ _ _ _ _).mono ?_
              rintro e w11 ⟨rfl, hb⟩
              clear k1 k2 f1 f2 l1 k3 k4 f3 f4 l2
              have h1 := below_step h0 hb
              clear h0 hb
              generalize hz : befB (x1, x2) (y1, y2) = z at HR2
              have HZ := Lib.hid hz
              clear hz
              cases z
              · go_wp2
                go_ret
                exact RetV.int (by rw [HR2.out]; rfl) h1
              · go_wp2
                go_ret
                exact RetV.int (by rw [HR2.out]; rfl) h1
end Go.Proofs
