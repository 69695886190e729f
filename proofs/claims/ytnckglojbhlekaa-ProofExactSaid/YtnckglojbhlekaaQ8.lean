/- Boxes, the reference's. -/
import Derived.Test.YtnckglojbhlekaaQ7
set_option linter.unusedVariables false
set_option linter.unusedSimpArgs false
namespace Go.Proofs
open Go.RowKit Go.Proofs.Mp

/-- the value v is a slice that reads as the boxes xs -/
def SlX (w : World) (v : Value) (xs : List Bx) : Prop := ∃ A c, v = .slice A xs.length c ∧ Rd 4 encX w A xs
theorem SlX.below {w w' : World} {v : Value} {xs : List Bx} (h : SlX w v xs) (hb : Below w.heap.size w w') : SlX w' v xs := by
  obtain ⟨A, c, rfl, hR⟩ := h
  exact ⟨A, c, rfl, hR.below hb⟩
theorem SlX.none (w : World) : SlX w (.slice .none 0 0) [] := ⟨_, _, rfl, Rd.nil _⟩
/-- the error of the boxes of two versions -/
def bxE (a b : P4) : Int := if colE a ≠ 0 then colE a else if colE b ≠ 0 then colE b else if a.p0.w = b.p0.w ∧ a.p0.h = b.p0.h then 0 else 1
/-- the runs of row y -/
def bxRun (a b : P4) (y : Nat) : List Bx := rowRuns (rowOf (colL a) (y * a.p0.w.toNat) a.p0.w.toNat) (rowOf (colL b) (y * a.p0.w.toNat) a.p0.w.toNat) y a.p0.w.toNat
/-- the boxes of the rows before y -/
def bxTo (a b : P4) : Nat → List Bx
  | 0 => []
  | y + 1 => (bxRun a b y).foldl extL (bxTo a b y)
def bxL (a b : P4) : List Bx := bxTo a b a.p0.h.toNat
def bxR (a b : P4) : List Bx := if bxE a b = 0 then bxL a b else []
theorem bxRun_len (a b : P4) (y : Nat) : (bxRun a b y).length ≤ a.p0.w.toNat := rowRuns_len _ _ _ _
theorem bxRun_y (a b : P4) (y : Nat) : ∀ q ∈ bxRun a b y, q.y0 = y := by
  intro q hq
  unfold bxRun rowRuns at hq
  obtain ⟨r, _, rfl⟩ := List.mem_map.1 hq
  rfl
theorem ext_len : ∀ (rs l : List Bx), (rs.foldl extL l).length ≤ l.length + rs.length
  | [], l => by simp
  | r :: rs, l => by
    rw [List.foldl_cons]
    have h1 := ext_len rs (extL l r)
    have h2 := extL_len r l
    simp only [List.length_cons]
    omega
theorem bxTo_len (a b : P4) : ∀ y, (bxTo a b y).length ≤ y * a.p0.w.toNat
  | 0 => by simp [bxTo]
  | y + 1 => by
    have h1 := ext_len (bxRun a b y) (bxTo a b y)
    have h2 := bxTo_len a b y
    have h3 := bxRun_len a b y
    show ((bxRun a b y).foldl extL (bxTo a b y)).length ≤ _
    rw [Nat.succ_mul]
    omega
/-- what Boxes leaves -/
def BoxPost (a b : P4) (w : World) (e : Ending) (w' : World) : Prop := ∃ v, e = .returned (.tuple #[v, .int .i64 (bxE a b)]) ∧ SlX w' v (bxR a b) ∧ Below w.heap.size w w'
theorem boxPost_err {a b : P4} {w w' : World} {r : Int} (h : bxE a b = r) (hn : r ≠ 0) (hb : Below w.heap.size w w') : BoxPost a b w (.returned (.tuple #[.slice none 0 0, .int .i64 r])) w' := by
  subst h
  refine ⟨_, rfl, ?_, hb⟩
  rw [show bxR a b = [] from by unfold bxR; rw [if_neg hn]]
  exact SlX.none _
theorem bxE_a {a b : P4} {r : Int} (h : colE a = r) (hn : r ≠ 0) : bxE a b = r := by
  subst h
  unfold bxE
  rw [if_pos hn]
theorem bxE_b {a b : P4} {r : Int} (ha : colE a = 0) (h : colE b = r) (hn : r ≠ 0) : bxE a b = r := by
  subst h
  unfold bxE
  rw [if_neg (by simp [ha]), if_pos hn]
theorem bxE_s {a b : P4} (ha : colE a = 0) (hb : colE b = 0) (h : ¬ (a.p0.w = b.p0.w ∧ a.p0.h = b.p0.h)) : bxE a b = 1 := by
  unfold bxE
  rw [if_neg (by simp [ha]), if_neg (by simp [hb]), if_neg h]
theorem bxE_z {a b : P4} (ha : colE a = 0) (hb : colE b = 0) (h : a.p0.w = b.p0.w ∧ a.p0.h = b.p0.h) : bxE a b = 0 := by
  unfold bxE
  rw [if_neg (by simp [ha]), if_neg (by simp [hb]), if_pos h]
/-- the sizes of a valid version, as naturals -/
theorem size_nat {a : P4} (h : colE a = 0) : ∃ W H : Nat, a.p0.w = W ∧ a.p0.h = H ∧ W ≤ 256 ∧ H ≤ 256 ∧ (colL a).length = H * W := by
  obtain ⟨h1, h2, h3, _⟩ := chk_zero ((colE_zero h).1 0 (by omega))
  refine ⟨a.p0.w.toNat, a.p0.h.toNat, ?_, ?_, ?_, ?_, ?_⟩
  · change 1 ≤ a.p0.w ∧ a.p0.w ≤ 256 at h1; omega
  · change 1 ≤ a.p0.h ∧ a.p0.h ≤ 256 at h2; omega
  · change 1 ≤ a.p0.w ∧ a.p0.w ≤ 256 at h1; omega
  · change 1 ≤ a.p0.h ∧ a.p0.h ≤ 256 at h2; omega
  · change 1 ≤ a.p0.w ∧ a.p0.w ≤ 256 at h1
    change 1 ≤ a.p0.h ∧ a.p0.h ≤ 256 at h2
    change (a.p0.v.length : Int) = a.p0.w * a.p0.h at h3
    rw [colL_len]
    have e1 : a.p0.w = (a.p0.w.toNat : Int) := by omega
    have e2 : a.p0.h = (a.p0.h.toNat : Int) := by omega
    have h4 : ((a.p0.v.length : Nat) : Int) = ((a.p0.w.toNat * a.p0.h.toNat : Nat) : Int) := by rw [Int.natCast_mul, ← e1, ← e2]; exact h3
    rw [Nat.mul_comm]
    exact Int.ofNat.inj h4

set_option maxRecDepth 100000 in
set_option maxHeartbeats 8000000 in
theorem ref_boxes (a b : P4) (w : World) (hfa : Few4 a 200) (hfb : Few4 b 200) (hRa : Rd4 w a) (hRb : Rd4 w b) : Calls Try.prog 15 #[agg4 a, agg4 b] w (BoxPost a b w) := by
  have CA := Lib.hid (fun (W : World) (hb : Below w.heap.size w W) => ref_colors a W (fun j => Nat.le_trans (hfa j) (by omega)) (hRa.below hb))
  have CB := Lib.hid (fun (W : World) (hb : Below w.heap.size w W) => ref_colors b W (fun j => Nat.le_trans (hfb j) (by omega)) (hRb.below hb))
  unfold agg4
  have k0 : Below w.heap.size w ((w.alloc (.cells #[.int .i64 a.p0.w, .int .i64 a.p0.h, .slice a.p0.a a.p0.v.length a.p0.c, .int .i64 a.p1.w, .int .i64 a.p1.h, .slice a.p1.a a.p1.v.length a.p1.c, .int .i64 a.p2.w, .int .i64 a.p2.h, .slice a.p2.a a.p2.v.length a.p2.c, .int .i64 a.p3.w, .int .i64 a.p3.h, .slice a.p3.a a.p3.v.length a.p3.c] 25)).alloc (.cells #[.int .i64 b.p0.w, .int .i64 b.p0.h, .slice b.p0.a b.p0.v.length b.p0.c, .int .i64 b.p1.w, .int .i64 b.p1.h, .slice b.p1.a b.p1.v.length b.p1.c, .int .i64 b.p2.w, .int .i64 b.p2.h, .slice b.p2.a b.p2.v.length b.p2.c, .int .i64 b.p3.w, .int .i64 b.p3.h, .slice b.p3.a b.p3.v.length b.p3.c] 25)) := (bw1 _ _).alloc (by simp) _
  have hs0 : ((w.alloc (.cells #[.int .i64 a.p0.w, .int .i64 a.p0.h, .slice a.p0.a a.p0.v.length a.p0.c, .int .i64 a.p1.w, .int .i64 a.p1.h, .slice a.p1.a a.p1.v.length a.p1.c, .int .i64 a.p2.w, .int .i64 a.p2.h, .slice a.p2.a a.p2.v.length a.p2.c, .int .i64 a.p3.w, .int .i64 a.p3.h, .slice a.p3.a a.p3.v.length a.p3.c] 25)).alloc (.cells #[.int .i64 b.p0.w, .int .i64 b.p0.h, .slice b.p0.a b.p0.v.length b.p0.c, .int .i64 b.p1.w, .int .i64 b.p1.h, .slice b.p1.a b.p1.v.length b.p1.c, .int .i64 b.p2.w, .int .i64 b.p2.h, .slice b.p2.a b.p2.v.length b.p2.c, .int .i64 b.p3.w, .int .i64 b.p3.h, .slice b.p3.a b.p3.v.length b.p3.c] 25)).heap.size = w.heap.size + 2 := by simp
  have hca : ((w.alloc (.cells #[.int .i64 a.p0.w, .int .i64 a.p0.h, .slice a.p0.a a.p0.v.length a.p0.c, .int .i64 a.p1.w, .int .i64 a.p1.h, .slice a.p1.a a.p1.v.length a.p1.c, .int .i64 a.p2.w, .int .i64 a.p2.h, .slice a.p2.a a.p2.v.length a.p2.c, .int .i64 a.p3.w, .int .i64 a.p3.h, .slice a.p3.a a.p3.v.length a.p3.c] 25)).alloc (.cells #[.int .i64 b.p0.w, .int .i64 b.p0.h, .slice b.p0.a b.p0.v.length b.p0.c, .int .i64 b.p1.w, .int .i64 b.p1.h, .slice b.p1.a b.p1.v.length b.p1.c, .int .i64 b.p2.w, .int .i64 b.p2.h, .slice b.p2.a b.p2.v.length b.p2.c, .int .i64 b.p3.w, .int .i64 b.p3.h, .slice b.p3.a b.p3.v.length b.p3.c] 25)).cell? ⟨w.heap.size, 0, none⟩ = some (.int .i64 a.p0.w) ∧ ((w.alloc (.cells #[.int .i64 a.p0.w, .int .i64 a.p0.h, .slice a.p0.a a.p0.v.length a.p0.c, .int .i64 a.p1.w, .int .i64 a.p1.h, .slice a.p1.a a.p1.v.length a.p1.c, .int .i64 a.p2.w, .int .i64 a.p2.h, .slice a.p2.a a.p2.v.length a.p2.c, .int .i64 a.p3.w, .int .i64 a.p3.h, .slice a.p3.a a.p3.v.length a.p3.c] 25)).alloc (.cells #[.int .i64 b.p0.w, .int .i64 b.p0.h, .slice b.p0.a b.p0.v.length b.p0.c, .int .i64 b.p1.w, .int .i64 b.p1.h, .slice b.p1.a b.p1.v.length b.p1.c, .int .i64 b.p2.w, .int .i64 b.p2.h, .slice b.p2.a b.p2.v.length b.p2.c, .int .i64 b.p3.w, .int .i64 b.p3.h, .slice b.p3.a b.p3.v.length b.p3.c] 25)).cell? ⟨w.heap.size, 1, none⟩ = some (.int .i64 a.p0.h) ∧ ((w.alloc (.cells #[.int .i64 a.p0.w, .int .i64 a.p0.h, .slice a.p0.a a.p0.v.length a.p0.c, .int .i64 a.p1.w, .int .i64 a.p1.h, .slice a.p1.a a.p1.v.length a.p1.c, .int .i64 a.p2.w, .int .i64 a.p2.h, .slice a.p2.a a.p2.v.length a.p2.c, .int .i64 a.p3.w, .int .i64 a.p3.h, .slice a.p3.a a.p3.v.length a.p3.c] 25)).alloc (.cells #[.int .i64 b.p0.w, .int .i64 b.p0.h, .slice b.p0.a b.p0.v.length b.p0.c, .int .i64 b.p1.w, .int .i64 b.p1.h, .slice b.p1.a b.p1.v.length b.p1.c, .int .i64 b.p2.w, .int .i64 b.p2.h, .slice b.p2.a b.p2.v.length b.p2.c, .int .i64 b.p3.w, .int .i64 b.p3.h, .slice b.p3.a b.p3.v.length b.p3.c] 25)).cell? ⟨w.heap.size, 2, none⟩ = some (.slice a.p0.a a.p0.v.length a.p0.c) ∧ ((w.alloc (.cells #[.int .i64 a.p0.w, .int .i64 a.p0.h, .slice a.p0.a a.p0.v.length a.p0.c, .int .i64 a.p1.w, .int .i64 a.p1.h, .slice a.p1.a a.p1.v.length a.p1.c, .int .i64 a.p2.w, .int .i64 a.p2.h, .slice a.p2.a a.p2.v.length a.p2.c, .int .i64 a.p3.w, .int .i64 a.p3.h, .slice a.p3.a a.p3.v.length a.p3.c] 25)).alloc (.cells #[.int .i64 b.p0.w, .int .i64 b.p0.h, .slice b.p0.a b.p0.v.length b.p0.c, .int .i64 b.p1.w, .int .i64 b.p1.h, .slice b.p1.a b.p1.v.length b.p1.c, .int .i64 b.p2.w, .int .i64 b.p2.h, .slice b.p2.a b.p2.v.length b.p2.c, .int .i64 b.p3.w, .int .i64 b.p3.h, .slice b.p3.a b.p3.v.length b.p3.c] 25)).cell? ⟨w.heap.size, 3, none⟩ = some (.int .i64 a.p1.w) ∧ ((w.alloc (.cells #[.int .i64 a.p0.w, .int .i64 a.p0.h, .slice a.p0.a a.p0.v.length a.p0.c, .int .i64 a.p1.w, .int .i64 a.p1.h, .slice a.p1.a a.p1.v.length a.p1.c, .int .i64 a.p2.w, .int .i64 a.p2.h, .slice a.p2.a a.p2.v.length a.p2.c, .int .i64 a.p3.w, .int .i64 a.p3.h, .slice a.p3.a a.p3.v.length a.p3.c] 25)).alloc (.cells #[.int .i64 b.p0.w, .int .i64 b.p0.h, .slice b.p0.a b.p0.v.length b.p0.c, .int .i64 b.p1.w, .int .i64 b.p1.h, .slice b.p1.a b.p1.v.length b.p1.c, .int .i64 b.p2.w, .int .i64 b.p2.h, .slice b.p2.a b.p2.v.length b.p2.c, .int .i64 b.p3.w, .int .i64 b.p3.h, .slice b.p3.a b.p3.v.length b.p3.c] 25)).cell? ⟨w.heap.size, 4, none⟩ = some (.int .i64 a.p1.h) ∧ ((w.alloc (.cells #[.int .i64 a.p0.w, .int .i64 a.p0.h, .slice a.p0.a a.p0.v.length a.p0.c, .int .i64 a.p1.w, .int .i64 a.p1.h, .slice a.p1.a a.p1.v.length a.p1.c, .int .i64 a.p2.w, .int .i64 a.p2.h, .slice a.p2.a a.p2.v.length a.p2.c, .int .i64 a.p3.w, .int .i64 a.p3.h, .slice a.p3.a a.p3.v.length a.p3.c] 25)).alloc (.cells #[.int .i64 b.p0.w, .int .i64 b.p0.h, .slice b.p0.a b.p0.v.length b.p0.c, .int .i64 b.p1.w, .int .i64 b.p1.h, .slice b.p1.a b.p1.v.length b.p1.c, .int .i64 b.p2.w, .int .i64 b.p2.h, .slice b.p2.a b.p2.v.length b.p2.c, .int .i64 b.p3.w, .int .i64 b.p3.h, .slice b.p3.a b.p3.v.length b.p3.c] 25)).cell? ⟨w.heap.size, 5, none⟩ = some (.slice a.p1.a a.p1.v.length a.p1.c) ∧ ((w.alloc (.cells #[.int .i64 a.p0.w, .int .i64 a.p0.h, .slice a.p0.a a.p0.v.length a.p0.c, .int .i64 a.p1.w, .int .i64 a.p1.h, .slice a.p1.a a.p1.v.length a.p1.c, .int .i64 a.p2.w, .int .i64 a.p2.h, .slice a.p2.a a.p2.v.length a.p2.c, .int .i64 a.p3.w, .int .i64 a.p3.h, .slice a.p3.a a.p3.v.length a.p3.c] 25)).alloc (.cells #[.int .i64 b.p0.w, .int .i64 b.p0.h, .slice b.p0.a b.p0.v.length b.p0.c, .int .i64 b.p1.w, .int .i64 b.p1.h, .slice b.p1.a b.p1.v.length b.p1.c, .int .i64 b.p2.w, .int .i64 b.p2.h, .slice b.p2.a b.p2.v.length b.p2.c, .int .i64 b.p3.w, .int .i64 b.p3.h, .slice b.p3.a b.p3.v.length b.p3.c] 25)).cell? ⟨w.heap.size, 6, none⟩ = some (.int .i64 a.p2.w) ∧ ((w.alloc (.cells #[.int .i64 a.p0.w, .int .i64 a.p0.h, .slice a.p0.a a.p0.v.length a.p0.c, .int .i64 a.p1.w, .int .i64 a.p1.h, .slice a.p1.a a.p1.v.length a.p1.c, .int .i64 a.p2.w, .int .i64 a.p2.h, .slice a.p2.a a.p2.v.length a.p2.c, .int .i64 a.p3.w, .int .i64 a.p3.h, .slice a.p3.a a.p3.v.length a.p3.c] 25)).alloc (.cells #[.int .i64 b.p0.w, .int .i64 b.p0.h, .slice b.p0.a b.p0.v.length b.p0.c, .int .i64 b.p1.w, .int .i64 b.p1.h, .slice b.p1.a b.p1.v.length b.p1.c, .int .i64 b.p2.w, .int .i64 b.p2.h, .slice b.p2.a b.p2.v.length b.p2.c, .int .i64 b.p3.w, .int .i64 b.p3.h, .slice b.p3.a b.p3.v.length b.p3.c] 25)).cell? ⟨w.heap.size, 7, none⟩ = some (.int .i64 a.p2.h) ∧ ((w.alloc (.cells #[.int .i64 a.p0.w, .int .i64 a.p0.h, .slice a.p0.a a.p0.v.length a.p0.c, .int .i64 a.p1.w, .int .i64 a.p1.h, .slice a.p1.a a.p1.v.length a.p1.c, .int .i64 a.p2.w, .int .i64 a.p2.h, .slice a.p2.a a.p2.v.length a.p2.c, .int .i64 a.p3.w, .int .i64 a.p3.h, .slice a.p3.a a.p3.v.length a.p3.c] 25)).alloc (.cells #[.int .i64 b.p0.w, .int .i64 b.p0.h, .slice b.p0.a b.p0.v.length b.p0.c, .int .i64 b.p1.w, .int .i64 b.p1.h, .slice b.p1.a b.p1.v.length b.p1.c, .int .i64 b.p2.w, .int .i64 b.p2.h, .slice b.p2.a b.p2.v.length b.p2.c, .int .i64 b.p3.w, .int .i64 b.p3.h, .slice b.p3.a b.p3.v.length b.p3.c] 25)).cell? ⟨w.heap.size, 8, none⟩ = some (.slice a.p2.a a.p2.v.length a.p2.c) ∧ ((w.alloc (.cells #[.int .i64 a.p0.w, .int .i64 a.p0.h, .slice a.p0.a a.p0.v.length a.p0.c, .int .i64 a.p1.w, .int .i64 a.p1.h, .slice a.p1.a a.p1.v.length a.p1.c, .int .i64 a.p2.w, .int .i64 a.p2.h, .slice a.p2.a a.p2.v.length a.p2.c, .int .i64 a.p3.w, .int .i64 a.p3.h, .slice a.p3.a a.p3.v.length a.p3.c] 25)).alloc (.cells #[.int .i64 b.p0.w, .int .i64 b.p0.h, .slice b.p0.a b.p0.v.length b.p0.c, .int .i64 b.p1.w, .int .i64 b.p1.h, .slice b.p1.a b.p1.v.length b.p1.c, .int .i64 b.p2.w, .int .i64 b.p2.h, .slice b.p2.a b.p2.v.length b.p2.c, .int .i64 b.p3.w, .int .i64 b.p3.h, .slice b.p3.a b.p3.v.length b.p3.c] 25)).cell? ⟨w.heap.size, 9, none⟩ = some (.int .i64 a.p3.w) ∧ ((w.alloc (.cells #[.int .i64 a.p0.w, .int .i64 a.p0.h, .slice a.p0.a a.p0.v.length a.p0.c, .int .i64 a.p1.w, .int .i64 a.p1.h, .slice a.p1.a a.p1.v.length a.p1.c, .int .i64 a.p2.w, .int .i64 a.p2.h, .slice a.p2.a a.p2.v.length a.p2.c, .int .i64 a.p3.w, .int .i64 a.p3.h, .slice a.p3.a a.p3.v.length a.p3.c] 25)).alloc (.cells #[.int .i64 b.p0.w, .int .i64 b.p0.h, .slice b.p0.a b.p0.v.length b.p0.c, .int .i64 b.p1.w, .int .i64 b.p1.h, .slice b.p1.a b.p1.v.length b.p1.c, .int .i64 b.p2.w, .int .i64 b.p2.h, .slice b.p2.a b.p2.v.length b.p2.c, .int .i64 b.p3.w, .int .i64 b.p3.h, .slice b.p3.a b.p3.v.length b.p3.c] 25)).cell? ⟨w.heap.size, 10, none⟩ = some (.int .i64 a.p3.h) ∧ ((w.alloc (.cells #[.int .i64 a.p0.w, .int .i64 a.p0.h, .slice a.p0.a a.p0.v.length a.p0.c, .int .i64 a.p1.w, .int .i64 a.p1.h, .slice a.p1.a a.p1.v.length a.p1.c, .int .i64 a.p2.w, .int .i64 a.p2.h, .slice a.p2.a a.p2.v.length a.p2.c, .int .i64 a.p3.w, .int .i64 a.p3.h, .slice a.p3.a a.p3.v.length a.p3.c] 25)).alloc (.cells #[.int .i64 b.p0.w, .int .i64 b.p0.h, .slice b.p0.a b.p0.v.length b.p0.c, .int .i64 b.p1.w, .int .i64 b.p1.h, .slice b.p1.a b.p1.v.length b.p1.c, .int .i64 b.p2.w, .int .i64 b.p2.h, .slice b.p2.a b.p2.v.length b.p2.c, .int .i64 b.p3.w, .int .i64 b.p3.h, .slice b.p3.a b.p3.v.length b.p3.c] 25)).cell? ⟨w.heap.size, 11, none⟩ = some (.slice a.p3.a a.p3.v.length a.p3.c) := by
    refine ⟨?_, ?_, ?_, ?_, ?_, ?_, ?_, ?_, ?_, ?_, ?_, ?_⟩ <;> simp
  have hcb : ((w.alloc (.cells #[.int .i64 a.p0.w, .int .i64 a.p0.h, .slice a.p0.a a.p0.v.length a.p0.c, .int .i64 a.p1.w, .int .i64 a.p1.h, .slice a.p1.a a.p1.v.length a.p1.c, .int .i64 a.p2.w, .int .i64 a.p2.h, .slice a.p2.a a.p2.v.length a.p2.c, .int .i64 a.p3.w, .int .i64 a.p3.h, .slice a.p3.a a.p3.v.length a.p3.c] 25)).alloc (.cells #[.int .i64 b.p0.w, .int .i64 b.p0.h, .slice b.p0.a b.p0.v.length b.p0.c, .int .i64 b.p1.w, .int .i64 b.p1.h, .slice b.p1.a b.p1.v.length b.p1.c, .int .i64 b.p2.w, .int .i64 b.p2.h, .slice b.p2.a b.p2.v.length b.p2.c, .int .i64 b.p3.w, .int .i64 b.p3.h, .slice b.p3.a b.p3.v.length b.p3.c] 25)).cell? ⟨w.heap.size + 1, 0, none⟩ = some (.int .i64 b.p0.w) ∧ ((w.alloc (.cells #[.int .i64 a.p0.w, .int .i64 a.p0.h, .slice a.p0.a a.p0.v.length a.p0.c, .int .i64 a.p1.w, .int .i64 a.p1.h, .slice a.p1.a a.p1.v.length a.p1.c, .int .i64 a.p2.w, .int .i64 a.p2.h, .slice a.p2.a a.p2.v.length a.p2.c, .int .i64 a.p3.w, .int .i64 a.p3.h, .slice a.p3.a a.p3.v.length a.p3.c] 25)).alloc (.cells #[.int .i64 b.p0.w, .int .i64 b.p0.h, .slice b.p0.a b.p0.v.length b.p0.c, .int .i64 b.p1.w, .int .i64 b.p1.h, .slice b.p1.a b.p1.v.length b.p1.c, .int .i64 b.p2.w, .int .i64 b.p2.h, .slice b.p2.a b.p2.v.length b.p2.c, .int .i64 b.p3.w, .int .i64 b.p3.h, .slice b.p3.a b.p3.v.length b.p3.c] 25)).cell? ⟨w.heap.size + 1, 1, none⟩ = some (.int .i64 b.p0.h) ∧ ((w.alloc (.cells #[.int .i64 a.p0.w, .int .i64 a.p0.h, .slice a.p0.a a.p0.v.length a.p0.c, .int .i64 a.p1.w, .int .i64 a.p1.h, .slice a.p1.a a.p1.v.length a.p1.c, .int .i64 a.p2.w, .int .i64 a.p2.h, .slice a.p2.a a.p2.v.length a.p2.c, .int .i64 a.p3.w, .int .i64 a.p3.h, .slice a.p3.a a.p3.v.length a.p3.c] 25)).alloc (.cells #[.int .i64 b.p0.w, .int .i64 b.p0.h, .slice b.p0.a b.p0.v.length b.p0.c, .int .i64 b.p1.w, .int .i64 b.p1.h, .slice b.p1.a b.p1.v.length b.p1.c, .int .i64 b.p2.w, .int .i64 b.p2.h, .slice b.p2.a b.p2.v.length b.p2.c, .int .i64 b.p3.w, .int .i64 b.p3.h, .slice b.p3.a b.p3.v.length b.p3.c] 25)).cell? ⟨w.heap.size + 1, 2, none⟩ = some (.slice b.p0.a b.p0.v.length b.p0.c) ∧ ((w.alloc (.cells #[.int .i64 a.p0.w, .int .i64 a.p0.h, .slice a.p0.a a.p0.v.length a.p0.c, .int .i64 a.p1.w, .int .i64 a.p1.h, .slice a.p1.a a.p1.v.length a.p1.c, .int .i64 a.p2.w, .int .i64 a.p2.h, .slice a.p2.a a.p2.v.length a.p2.c, .int .i64 a.p3.w, .int .i64 a.p3.h, .slice a.p3.a a.p3.v.length a.p3.c] 25)).alloc (.cells #[.int .i64 b.p0.w, .int .i64 b.p0.h, .slice b.p0.a b.p0.v.length b.p0.c, .int .i64 b.p1.w, .int .i64 b.p1.h, .slice b.p1.a b.p1.v.length b.p1.c, .int .i64 b.p2.w, .int .i64 b.p2.h, .slice b.p2.a b.p2.v.length b.p2.c, .int .i64 b.p3.w, .int .i64 b.p3.h, .slice b.p3.a b.p3.v.length b.p3.c] 25)).cell? ⟨w.heap.size + 1, 3, none⟩ = some (.int .i64 b.p1.w) ∧ ((w.alloc (.cells #[.int .i64 a.p0.w, .int .i64 a.p0.h, .slice a.p0.a a.p0.v.length a.p0.c, .int .i64 a.p1.w, .int .i64 a.p1.h, .slice a.p1.a a.p1.v.length a.p1.c, .int .i64 a.p2.w, .int .i64 a.p2.h, .slice a.p2.a a.p2.v.length a.p2.c, .int .i64 a.p3.w, .int .i64 a.p3.h, .slice a.p3.a a.p3.v.length a.p3.c] 25)).alloc (.cells #[.int .i64 b.p0.w, .int .i64 b.p0.h, .slice b.p0.a b.p0.v.length b.p0.c, .int .i64 b.p1.w, .int .i64 b.p1.h, .slice b.p1.a b.p1.v.length b.p1.c, .int .i64 b.p2.w, .int .i64 b.p2.h, .slice b.p2.a b.p2.v.length b.p2.c, .int .i64 b.p3.w, .int .i64 b.p3.h, .slice b.p3.a b.p3.v.length b.p3.c] 25)).cell? ⟨w.heap.size + 1, 4, none⟩ = some (.int .i64 b.p1.h) ∧ ((w.alloc (.cells #[.int .i64 a.p0.w, .int .i64 a.p0.h, .slice a.p0.a a.p0.v.length a.p0.c, .int .i64 a.p1.w, .int .i64 a.p1.h, .slice a.p1.a a.p1.v.length a.p1.c, .int .i64 a.p2.w, .int .i64 a.p2.h, .slice a.p2.a a.p2.v.length a.p2.c, .int .i64 a.p3.w, .int .i64 a.p3.h, .slice a.p3.a a.p3.v.length a.p3.c] 25)).alloc (.cells #[.int .i64 b.p0.w, .int .i64 b.p0.h, .slice b.p0.a b.p0.v.length b.p0.c, .int .i64 b.p1.w, .int .i64 b.p1.h, .slice b.p1.a b.p1.v.length b.p1.c, .int .i64 b.p2.w, .int .i64 b.p2.h, .slice b.p2.a b.p2.v.length b.p2.c, .int .i64 b.p3.w, .int .i64 b.p3.h, .slice b.p3.a b.p3.v.length b.p3.c] 25)).cell? ⟨w.heap.size + 1, 5, none⟩ = some (.slice b.p1.a b.p1.v.length b.p1.c) ∧ ((w.alloc (.cells #[.int .i64 a.p0.w, .int .i64 a.p0.h, .slice a.p0.a a.p0.v.length a.p0.c, .int .i64 a.p1.w, .int .i64 a.p1.h, .slice a.p1.a a.p1.v.length a.p1.c, .int .i64 a.p2.w, .int .i64 a.p2.h, .slice a.p2.a a.p2.v.length a.p2.c, .int .i64 a.p3.w, .int .i64 a.p3.h, .slice a.p3.a a.p3.v.length a.p3.c] 25)).alloc (.cells #[.int .i64 b.p0.w, .int .i64 b.p0.h, .slice b.p0.a b.p0.v.length b.p0.c, .int .i64 b.p1.w, .int .i64 b.p1.h, .slice b.p1.a b.p1.v.length b.p1.c, .int .i64 b.p2.w, .int .i64 b.p2.h, .slice b.p2.a b.p2.v.length b.p2.c, .int .i64 b.p3.w, .int .i64 b.p3.h, .slice b.p3.a b.p3.v.length b.p3.c] 25)).cell? ⟨w.heap.size + 1, 6, none⟩ = some (.int .i64 b.p2.w) ∧ ((w.alloc (.cells #[.int .i64 a.p0.w, .int .i64 a.p0.h, .slice a.p0.a a.p0.v.length a.p0.c, .int .i64 a.p1.w, .int .i64 a.p1.h, .slice a.p1.a a.p1.v.length a.p1.c, .int .i64 a.p2.w, .int .i64 a.p2.h, .slice a.p2.a a.p2.v.length a.p2.c, .int .i64 a.p3.w, .int .i64 a.p3.h, .slice a.p3.a a.p3.v.length a.p3.c] 25)).alloc (.cells #[.int .i64 b.p0.w, .int .i64 b.p0.h, .slice b.p0.a b.p0.v.length b.p0.c, .int .i64 b.p1.w, .int .i64 b.p1.h, .slice b.p1.a b.p1.v.length b.p1.c, .int .i64 b.p2.w, .int .i64 b.p2.h, .slice b.p2.a b.p2.v.length b.p2.c, .int .i64 b.p3.w, .int .i64 b.p3.h, .slice b.p3.a b.p3.v.length b.p3.c] 25)).cell? ⟨w.heap.size + 1, 7, none⟩ = some (.int .i64 b.p2.h) ∧ ((w.alloc (.cells #[.int .i64 a.p0.w, .int .i64 a.p0.h, .slice a.p0.a a.p0.v.length a.p0.c, .int .i64 a.p1.w, .int .i64 a.p1.h, .slice a.p1.a a.p1.v.length a.p1.c, .int .i64 a.p2.w, .int .i64 a.p2.h, .slice a.p2.a a.p2.v.length a.p2.c, .int .i64 a.p3.w, .int .i64 a.p3.h, .slice a.p3.a a.p3.v.length a.p3.c] 25)).alloc (.cells #[.int .i64 b.p0.w, .int .i64 b.p0.h, .slice b.p0.a b.p0.v.length b.p0.c, .int .i64 b.p1.w, .int .i64 b.p1.h, .slice b.p1.a b.p1.v.length b.p1.c, .int .i64 b.p2.w, .int .i64 b.p2.h, .slice b.p2.a b.p2.v.length b.p2.c, .int .i64 b.p3.w, .int .i64 b.p3.h, .slice b.p3.a b.p3.v.length b.p3.c] 25)).cell? ⟨w.heap.size + 1, 8, none⟩ = some (.slice b.p2.a b.p2.v.length b.p2.c) ∧ ((w.alloc (.cells #[.int .i64 a.p0.w, .int .i64 a.p0.h, .slice a.p0.a a.p0.v.length a.p0.c, .int .i64 a.p1.w, .int .i64 a.p1.h, .slice a.p1.a a.p1.v.length a.p1.c, .int .i64 a.p2.w, .int .i64 a.p2.h, .slice a.p2.a a.p2.v.length a.p2.c, .int .i64 a.p3.w, .int .i64 a.p3.h, .slice a.p3.a a.p3.v.length a.p3.c] 25)).alloc (.cells #[.int .i64 b.p0.w, .int .i64 b.p0.h, .slice b.p0.a b.p0.v.length b.p0.c, .int .i64 b.p1.w, .int .i64 b.p1.h, .slice b.p1.a b.p1.v.length b.p1.c, .int .i64 b.p2.w, .int .i64 b.p2.h, .slice b.p2.a b.p2.v.length b.p2.c, .int .i64 b.p3.w, .int .i64 b.p3.h, .slice b.p3.a b.p3.v.length b.p3.c] 25)).cell? ⟨w.heap.size + 1, 9, none⟩ = some (.int .i64 b.p3.w) ∧ ((w.alloc (.cells #[.int .i64 a.p0.w, .int .i64 a.p0.h, .slice a.p0.a a.p0.v.length a.p0.c, .int .i64 a.p1.w, .int .i64 a.p1.h, .slice a.p1.a a.p1.v.length a.p1.c, .int .i64 a.p2.w, .int .i64 a.p2.h, .slice a.p2.a a.p2.v.length a.p2.c, .int .i64 a.p3.w, .int .i64 a.p3.h, .slice a.p3.a a.p3.v.length a.p3.c] 25)).alloc (.cells #[.int .i64 b.p0.w, .int .i64 b.p0.h, .slice b.p0.a b.p0.v.length b.p0.c, .int .i64 b.p1.w, .int .i64 b.p1.h, .slice b.p1.a b.p1.v.length b.p1.c, .int .i64 b.p2.w, .int .i64 b.p2.h, .slice b.p2.a b.p2.v.length b.p2.c, .int .i64 b.p3.w, .int .i64 b.p3.h, .slice b.p3.a b.p3.v.length b.p3.c] 25)).cell? ⟨w.heap.size + 1, 10, none⟩ = some (.int .i64 b.p3.h) ∧ ((w.alloc (.cells #[.int .i64 a.p0.w, .int .i64 a.p0.h, .slice a.p0.a a.p0.v.length a.p0.c, .int .i64 a.p1.w, .int .i64 a.p1.h, .slice a.p1.a a.p1.v.length a.p1.c, .int .i64 a.p2.w, .int .i64 a.p2.h, .slice a.p2.a a.p2.v.length a.p2.c, .int .i64 a.p3.w, .int .i64 a.p3.h, .slice a.p3.a a.p3.v.length a.p3.c] 25)).alloc (.cells #[.int .i64 b.p0.w, .int .i64 b.p0.h, .slice b.p0.a b.p0.v.length b.p0.c, .int .i64 b.p1.w, .int .i64 b.p1.h, .slice b.p1.a b.p1.v.length b.p1.c, .int .i64 b.p2.w, .int .i64 b.p2.h, .slice b.p2.a b.p2.v.length b.p2.c, .int .i64 b.p3.w, .int .i64 b.p3.h, .slice b.p3.a b.p3.v.length b.p3.c] 25)).cell? ⟨w.heap.size + 1, 11, none⟩ = some (.slice b.p3.a b.p3.v.length b.p3.c) := by
    refine ⟨?_, ?_, ?_, ?_, ?_, ?_, ?_, ?_, ?_, ?_, ?_, ?_⟩ <;> simp
  go_enter Try.func15, Try.ntmps15
  go_wp2_with fail
  generalize ((w.alloc (.cells #[.int .i64 a.p0.w, .int .i64 a.p0.h, .slice a.p0.a a.p0.v.length a.p0.c, .int .i64 a.p1.w, .int .i64 a.p1.h, .slice a.p1.a a.p1.v.length a.p1.c, .int .i64 a.p2.w, .int .i64 a.p2.h, .slice a.p2.a a.p2.v.length a.p2.c, .int .i64 a.p3.w, .int .i64 a.p3.h, .slice a.p3.a a.p3.v.length a.p3.c] 25)).alloc (.cells #[.int .i64 b.p0.w, .int .i64 b.p0.h, .slice b.p0.a b.p0.v.length b.p0.c, .int .i64 b.p1.w, .int .i64 b.p1.h, .slice b.p1.a b.p1.v.length b.p1.c, .int .i64 b.p2.w, .int .i64 b.p2.h, .slice b.p2.a b.p2.v.length b.p2.c, .int .i64 b.p3.w, .int .i64 b.p3.h, .slice b.p3.a b.p3.v.length b.p3.c] 25)) = w0 at *
  have HA : Hid (∀ W, Below w0.heap.size w0 W → W.cell? ⟨w.heap.size, 0, none⟩ = some (.int .i64 a.p0.w) ∧ W.cell? ⟨w.heap.size, 1, none⟩ = some (.int .i64 a.p0.h) ∧ W.cell? ⟨w.heap.size, 2, none⟩ = some (.slice a.p0.a a.p0.v.length a.p0.c) ∧ W.cell? ⟨w.heap.size, 3, none⟩ = some (.int .i64 a.p1.w) ∧ W.cell? ⟨w.heap.size, 4, none⟩ = some (.int .i64 a.p1.h) ∧ W.cell? ⟨w.heap.size, 5, none⟩ = some (.slice a.p1.a a.p1.v.length a.p1.c) ∧ W.cell? ⟨w.heap.size, 6, none⟩ = some (.int .i64 a.p2.w) ∧ W.cell? ⟨w.heap.size, 7, none⟩ = some (.int .i64 a.p2.h) ∧ W.cell? ⟨w.heap.size, 8, none⟩ = some (.slice a.p2.a a.p2.v.length a.p2.c) ∧ W.cell? ⟨w.heap.size, 9, none⟩ = some (.int .i64 a.p3.w) ∧ W.cell? ⟨w.heap.size, 10, none⟩ = some (.int .i64 a.p3.h) ∧ W.cell? ⟨w.heap.size, 11, none⟩ = some (.slice a.p3.a a.p3.v.length a.p3.c)) := Lib.hid (fun W hb => by
    obtain ⟨c0, c1, c2, c3, c4, c5, c6, c7, c8, c9, c10, c11⟩ := hca
    have hlt : w.heap.size < w0.heap.size := by omega
    exact ⟨(hb.cell (p := ⟨w.heap.size, 0, none⟩) hlt).trans c0, (hb.cell (p := ⟨w.heap.size, 1, none⟩) hlt).trans c1, (hb.cell (p := ⟨w.heap.size, 2, none⟩) hlt).trans c2, (hb.cell (p := ⟨w.heap.size, 3, none⟩) hlt).trans c3, (hb.cell (p := ⟨w.heap.size, 4, none⟩) hlt).trans c4, (hb.cell (p := ⟨w.heap.size, 5, none⟩) hlt).trans c5, (hb.cell (p := ⟨w.heap.size, 6, none⟩) hlt).trans c6, (hb.cell (p := ⟨w.heap.size, 7, none⟩) hlt).trans c7, (hb.cell (p := ⟨w.heap.size, 8, none⟩) hlt).trans c8, (hb.cell (p := ⟨w.heap.size, 9, none⟩) hlt).trans c9, (hb.cell (p := ⟨w.heap.size, 10, none⟩) hlt).trans c10, (hb.cell (p := ⟨w.heap.size, 11, none⟩) hlt).trans c11⟩)
  have HB : Hid (∀ W, Below w0.heap.size w0 W → W.cell? ⟨w.heap.size + 1, 0, none⟩ = some (.int .i64 b.p0.w) ∧ W.cell? ⟨w.heap.size + 1, 1, none⟩ = some (.int .i64 b.p0.h) ∧ W.cell? ⟨w.heap.size + 1, 2, none⟩ = some (.slice b.p0.a b.p0.v.length b.p0.c) ∧ W.cell? ⟨w.heap.size + 1, 3, none⟩ = some (.int .i64 b.p1.w) ∧ W.cell? ⟨w.heap.size + 1, 4, none⟩ = some (.int .i64 b.p1.h) ∧ W.cell? ⟨w.heap.size + 1, 5, none⟩ = some (.slice b.p1.a b.p1.v.length b.p1.c) ∧ W.cell? ⟨w.heap.size + 1, 6, none⟩ = some (.int .i64 b.p2.w) ∧ W.cell? ⟨w.heap.size + 1, 7, none⟩ = some (.int .i64 b.p2.h) ∧ W.cell? ⟨w.heap.size + 1, 8, none⟩ = some (.slice b.p2.a b.p2.v.length b.p2.c) ∧ W.cell? ⟨w.heap.size + 1, 9, none⟩ = some (.int .i64 b.p3.w) ∧ W.cell? ⟨w.heap.size + 1, 10, none⟩ = some (.int .i64 b.p3.h) ∧ W.cell? ⟨w.heap.size + 1, 11, none⟩ = some (.slice b.p3.a b.p3.v.length b.p3.c)) := Lib.hid (fun W hb => by
    obtain ⟨c0, c1, c2, c3, c4, c5, c6, c7, c8, c9, c10, c11⟩ := hcb
    have hlt : w.heap.size + 1 < w0.heap.size := by omega
    exact ⟨(hb.cell (p := ⟨w.heap.size + 1, 0, none⟩) hlt).trans c0, (hb.cell (p := ⟨w.heap.size + 1, 1, none⟩) hlt).trans c1, (hb.cell (p := ⟨w.heap.size + 1, 2, none⟩) hlt).trans c2, (hb.cell (p := ⟨w.heap.size + 1, 3, none⟩) hlt).trans c3, (hb.cell (p := ⟨w.heap.size + 1, 4, none⟩) hlt).trans c4, (hb.cell (p := ⟨w.heap.size + 1, 5, none⟩) hlt).trans c5, (hb.cell (p := ⟨w.heap.size + 1, 6, none⟩) hlt).trans c6, (hb.cell (p := ⟨w.heap.size + 1, 7, none⟩) hlt).trans c7, (hb.cell (p := ⟨w.heap.size + 1, 8, none⟩) hlt).trans c8, (hb.cell (p := ⟨w.heap.size + 1, 9, none⟩) hlt).trans c9, (hb.cell (p := ⟨w.heap.size + 1, 10, none⟩) hlt).trans c10, (hb.cell (p := ⟨w.heap.size + 1, 11, none⟩) hlt).trans c11⟩)
  clear hca hcb
  refine (CA.out w0 k0).mono ?_
  rintro e w1 ⟨va, rfl, hSa, hb1⟩
  have kw1 := k0.trans (hb1.mono k0.size)
  by_cases ha : colE a = 0
  rotate_left
  · obtain ⟨r, hr⟩ : ∃ r, colE a = r := ⟨_, rfl⟩
    rw [hr] at ha ⊢
    have HR := Lib.hid hr
    clear hr hSa
    have hrb : (r != 0) = true := by simp [ha]
    clear hb1
    go_wp2
    go_ret2
    exact boxPost_err (bxE_a HR.out ha) ha kw1
  have hSa' := hSa
  rw [show colR a = colL a from by unfold colR; rw [if_pos ha]] at hSa'
  rw [ha]
  clear hSa
  have HAZ := Lib.hid ha
  clear ha
  obtain ⟨d0, d1, d2, d3, d4, d5, d6, d7, d8, d9, d10, d11⟩ := HB.out w1 hb1
  go_wp2_with fail
  clear d0 d1 d2 d3 d4 d5 d6 d7 d8 d9 d10 d11
  refine (CB.out w1 kw1).mono ?_
  rintro e w2 ⟨vb, rfl, hSb, hb2⟩
  have kw2 := kw1.trans (hb2.mono kw1.size)
  have hb02 := hb1.trans (hb2.mono hb1.size)
  have hSa2 := hSa'.below hb2
  clear hb2 hSa' hb1 kw1
  by_cases hb : colE b = 0
  rotate_left
  · obtain ⟨r, hr⟩ : ∃ r, colE b = r := ⟨_, rfl⟩
    rw [hr] at hb ⊢
    have HR := Lib.hid hr
    clear hr hSb hSa2
    have hrb : (r != 0) = true := by simp [hb]
    go_wp2
    go_ret2
    exact boxPost_err (bxE_b HAZ.out HR.out hb) hb kw2
  have hSb2 := hSb
  rw [show colR b = colL b from by unfold colR; rw [if_pos hb]] at hSb2
  rw [hb]
  clear hSb
  have HBZ := Lib.hid hb
  clear hb
  obtain ⟨c0, c1, c2, c3, c4, c5, c6, c7, c8, c9, c10, c11⟩ := HA.out w2 hb02
  obtain ⟨d0, d1, d2, d3, d4, d5, d6, d7, d8, d9, d10, d11⟩ := HB.out w2 hb02
  by_cases hw : a.p0.w = b.p0.w
  rotate_left
  · have hwb : (a.p0.w != b.p0.w) = true := by simp [hw]
    have HE := Lib.hid (bxE_s HAZ.out HBZ.out (fun h => hw h.1))
    clear hw
    go_wp2
    go_ret2
    exact boxPost_err HE.out (by omega) kw2
  by_cases hh : a.p0.h = b.p0.h
  rotate_left
  · have hwb : (a.p0.w != b.p0.w) = false := by simp [hw]
    have hhb : (a.p0.h != b.p0.h) = true := by simp [hh]
    have HE := Lib.hid (bxE_s HAZ.out HBZ.out (fun h => hh h.2))
    clear hw hh
    go_wp2
    go_ret2
    exact boxPost_err HE.out (by omega) kw2
  have hwb : (a.p0.w != b.p0.w) = false := by simp [hw]
  have hhb : (a.p0.h != b.p0.h) = false := by simp [hh]
  have HE := Lib.hid (bxE_z HAZ.out HBZ.out ⟨hw, hh⟩)
  obtain ⟨Wn, Hn, eW, eH, lW, lH, hla⟩ := size_nat HAZ.out
  obtain ⟨Wm, Hm, eW', eH', _, _, hlb⟩ := size_nat HBZ.out
  have e1 : Wm = Wn := by omega
  have e2 : Hm = Hn := by omega
  subst e1 e2
  have HLA := Lib.hid hla
  have HLB := Lib.hid hlb
  have HEW := Lib.hid eW
  have HEH := Lib.hid eH
  have HRUN : Hid (∀ y, bxRun a b y = rowRuns (rowOf (colL a) (y * Wm) Wm) (rowOf (colL b) (y * Wm) Wm) y Wm) := Lib.hid (fun y => by unfold bxRun; rw [HEW.out]; simp)
  have HTL : Hid (∀ y, (bxTo a b y).length ≤ y * Wm) := Lib.hid (fun y => by have := bxTo_len a b y; rw [HEW.out] at this; simpa using this)
  have HRL : Hid (∀ y, (bxRun a b y).length ≤ Wm) := Lib.hid (fun y => by have := bxRun_len a b y; rw [HEW.out] at this; simpa using this)
  obtain ⟨Aa, ca, rfl, _, hRxa⟩ := hSa2
  obtain ⟨Ab, cb, rfl, _, hRxb⟩ := hSb2
  clear hla hlb eW eH eW' eH' hw hh
  go_wp2_with fail
  clear c0 c1 c2 c3 c4 c5 c6 c7 c8 c9 c10 c11 d0 d1 d2 d3 d4 d5 d6 d7 d8 d9 d10 d11 hwb hhb
  go_loopw [9, 10] (fun v i wr => ∃ y : Nat, y ≤ Hm ∧ i = .int .i64 y ∧ OwnX wr w2.heap.size v (bxTo a b y) ∧ Below w2.heap.size w2 wr) (fun _ i _ => Hm - (intOf i).toNat)
  case atStart => exact ⟨0, by omega, rfl, Own.nil w2 _, Below.refl _ _⟩
  case round =>
    obtain ⟨y, hy, rfl, hown, hbw⟩ := hrel
    obtain ⟨c0, c1, c2, c3, c4, c5, c6, c7, c8, c9, c10, c11⟩ := HA.out wr (hb02.trans (hbw.mono hb02.size))
    rw [HEW.out] at c0
    rw [HEH.out] at c1
    by_cases hlt : y < Hm
    · have hfit : y * Wm + Wm ≤ Hm * Wm := by
        have := Nat.mul_le_mul_right Wm (show y + 1 ≤ Hm from hlt)
        rwa [Nat.succ_mul] at this
      have hbig : Hm * Wm ≤ 256 * 256 := Nat.mul_le_mul lH lW
      have HFIT := Lib.hid hfit
      have HBIG := Lib.hid hbig
      clear hfit hbig
      have cR := Lib.hid (ref_runs Aa Ab ca cb Wm y (y * Wm) (colL a) (colL b) wr (by rw [HLA.out]; have := HBIG.out; omega) (by rw [HLB.out]; have := HBIG.out; omega) (by omega) (by omega) rfl (by rw [HLA.out]; exact HFIT.out) (by rw [HLB.out]; exact HFIT.out) (hRxa.below hbw) (hRxb.below hbw))
      go_wp2_with fail
      refine cR.out.mono ?_
      rintro e w3 ⟨vl, rfl, hol, hb3⟩
      rw [← HRUN.out] at hol
      have hown3 := hown.below hb3
      have hbw3 := hbw.trans (hb3.mono hbw.size)
      have hol0 : OwnA 38 4 encX w3 0 (fun j => u9.ownBlock = some j) vl (bxRun a b y) := ⟨hol.mono (Nat.zero_le _), fun j hj hj' => by
        have h1 := (World.ownsRow.lt hol j hj).1
        have h2 := (World.ownsRow.lt hown j hj').2
        omega⟩
      obtain ⟨Al, cl, rfl⟩ := Own.slice hol
      have hrl := HRL.out y
      have htl := HTL.out y
      have hyw : y * Wm ≤ 256 * 256 := by have := HFIT.out; have := HBIG.out; omega
      have HY := Lib.hid (bxRun_y a b y)
      clear hown hol cR hb3 hbw c0 c1 c2 c3 c4 c5 c6 c7 c8 c9 c10 c11
      obtain ⟨rs, hrs⟩ : ∃ rs, bxRun a b y = rs := ⟨_, rfl⟩
      obtain ⟨l0, hl0⟩ : ∃ l0, bxTo a b y = l0 := ⟨_, rfl⟩
      have HTO : Hid (bxTo a b (y + 1) = rs.foldl extL l0) := Lib.hid (by rw [← hrs, ← hl0]; rfl)
      rw [hrs] at hol0 hrl HY ⊢
      rw [hl0] at hown3 htl
      clear hrs hl0
      go_wp2_with fail
      go_loopw [9, 12] (fun v i wr => ∃ k : Nat, k ≤ rs.length ∧ i = .int .i64 k ∧ OwnX wr w2.heap.size v ((rs.take k).foldl extL l0) ∧ OwnA 38 4 encX wr 0 (fun j => v.ownBlock = some j) (.slice Al rs.length cl) rs ∧ Below w2.heap.size w2 wr) (fun _ i _ => rs.length - (intOf i).toNat)
      case atStart => exact ⟨0, by omega, rfl, hown3, hol0, hbw3⟩
      case round =>
        clear hown3 hol0 hbw3
        obtain ⟨k, hk, rfl, hown, hol, hbw⟩ := hrel
        by_cases hlk : k < rs.length
        · obtain ⟨bl, ofl, rfl, hbl, c0, c1, c2, c3⟩ := RdX.get (Own.rd encX_len hol.1) (Below.refl _ _) hlk
          have HF := Lib.hid (foldl_take_succ extL l0 rs k hlk)
          have hlen := ext_len (rs.take k) l0
          have htk : (rs.take k).length ≤ rs.length := by simp; omega
          have hqy := HY.out rs[k]! (by rw [getElem!_pos rs k hlk]; exact List.getElem_mem hlk)
          obtain ⟨q, hq⟩ : ∃ q, rs[k]! = q := ⟨_, rfl⟩
          rw [hq] at c0 c1 c2 c3 hqy
          have HQ := Lib.hid hq
          clear hq
          have cE := Lib.hid (ref_extend u9 ((rs.take k).foldl extL l0) q wr w2.heap.size (by omega) (by omega) hown hbw.size)
          have hbs := hbw.size
          clear hqy htk hlen
          go_wp2_with fail
          refine cE.out.mono ?_
          rintro e w4 ⟨v4, rfl, hown4, hg4, hm4⟩
          have hbw4 := hbw.grown hg4 hbs (fun j hj => (World.ownsRow.lt hown j hj).1)
          have hol4 : OwnA 38 4 encX w4 0 (fun j => v4.ownBlock = some j) (.slice (some ⟨bl, ofl, none⟩) rs.length cl) rs := by
            have h1 := hol.kept hg4 (by
              rcases ho : u9.ownBlock with _ | j
              · exact .inr (by rw [show (Value.slice (some ⟨bl, ofl, none⟩) rs.length cl).ownBlock = some bl from rfl]; simp)
              · refine .inr (fun e => ?_)
                rw [show (Value.slice (some ⟨bl, ofl, none⟩) rs.length cl).ownBlock = some bl from rfl] at e
                exact hol.2 bl rfl (ho.trans e.symm))
            refine h1.weak fun j hj hj' => ?_
            rcases hm4 with h | ⟨m, h, hm⟩
            · rw [h] at hj'
              exact hol.2 j hj hj'
            · rw [h] at hj'
              injection hj' with hj'
              have := (hol.lt hj).2
              omega
          clear cE hown hol hg4 hm4
          go_wp2
          go_roundw
          case rel => exact ⟨k + 1, by omega, by go_num, by rw [HF.out, HQ.out]; exact hown4, hol4, hbw4⟩
          case measure => simp [intOf]; omega
        · obtain rfl : k = rs.length := by omega
          rw [List.take_length, ← HTO.out] at hown
          go_wp2
          go_roundw
          case rel => exact ⟨y + 1, by omega, by go_num, hown, hbw⟩
          case measure => simp [intOf]; omega
    · obtain rfl : y = Hm := by omega
      have hfin : bxTo a b y = bxR a b := by unfold bxR bxL; rw [if_pos HE.out, HEH.out]; simp
      rw [hfin] at hown
      obtain ⟨A, c, rfl⟩ := Own.slice hown
      have kk := kw2.trans (hbw.mono kw2.size)
      clear hfin
      go_wp2
      go_ret2
      exact ⟨.slice A (bxR a b).length c, by rw [HE.out]; rfl, ⟨A, c, rfl, Own.rd encX_len hown⟩, kk⟩
end Go.Proofs
