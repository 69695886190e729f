/- light; the difference of a sheet that only one edition has. -/
import Derived.Test.YtnckglojbhlekaaQ11
set_option linter.unusedVariables false
set_option linter.unusedSimpArgs false
namespace Go.Proofs
open Go.RowKit Go.Proofs.Mp

def lightB (x : P4) : Bool := decide (x.p0.v.length ≤ 200) && decide (x.p1.v.length ≤ 200) && decide (x.p2.v.length ≤ 200) && decide (x.p3.v.length ≤ 200)
theorem light_few {x : P4} (h : lightB x = true) : Few4 x 200 := by
  unfold lightB at h
  simp only [Bool.and_eq_true, decide_eq_true_eq] at h
  obtain ⟨⟨⟨h0, h1⟩, h2⟩, h3⟩ := h
  intro j
  rcases j with _ | _ | _ | j
  · exact h0
  · exact h1
  · exact h2
  · exact h3
/-- a product with nothing but its sheet and its plates -/
def aggQ (s : Int) (x : P4) : Value := .agg #[.int .i64 s, .int .i64 0, .slice none 0 0, .slice none 0 0, .slice none 0 0, .slice none 0 0, .int .i64 x.p0.w, .int .i64 x.p0.h, .slice x.p0.a x.p0.v.length x.p0.c, .int .i64 x.p1.w, .int .i64 x.p1.h, .slice x.p1.a x.p1.v.length x.p1.c, .int .i64 x.p2.w, .int .i64 x.p2.h, .slice x.p2.a x.p2.v.length x.p2.c, .int .i64 x.p3.w, .int .i64 x.p3.h, .slice x.p3.a x.p3.v.length x.p3.c, .int .u64 0]
/-- the value v is a slice that reads as the differences xs -/
def SlD (w : World) (v : Value) (xs : List Df) : Prop := ∃ A c, v = .slice A xs.length c ∧ xs.length ≤ c ∧ Rd 5 encD w A xs
theorem SlD.below {w w' : World} {v : Value} {xs : List Df} (h : SlD w v xs) (hb : Below w.heap.size w w') : SlD w' v xs := by
  obtain ⟨A, c, rfl, hc, hR⟩ := h
  exact ⟨A, c, rfl, hc, hR.below hb⟩
theorem SlD.none (w : World) : SlD w (.slice .none 0 0) [] := ⟨_, _, rfl, Nat.le_refl _, Rd.nil _⟩
/-- a list of differences and an error -/
def DifPost (r : Int) (xs : List Df) (w : World) (e : Ending) (w' : World) : Prop := ∃ v, e = .returned (.tuple #[v, .int .i64 r]) ∧ SlD w' v xs ∧ Below w.heap.size w w'
theorem difPost_err {r' r : Int} {xs : List Df} {w w' : World} (h : r' = r) (hn : r ≠ 0) (hx : xs = []) (hb : Below w.heap.size w w') : DifPost r' xs w (.returned (.tuple #[.slice none 0 0, .int .i64 r])) w' := by
  subst h hx
  exact ⟨_, rfl, SlD.none _, hb⟩
def whE (x : P4) : Int := colE x
def whL (s : Int) (x : P4) : List Df := if colE x = 0 then [⟨s, ⟨0, 0, x.p0.w - 1, x.p0.h - 1⟩⟩] else []
theorem rd_new {α : Type} [Inhabited α] {k : Nat} {enc : α → List Value} (hk : ∀ x, (enc x).length = k) (w : World) (cs : Array Value) (t : TypeId) (xs : List α) (h : cs = (xs.flatMap enc).toArray) : Rd k enc (w.alloc (.cells cs t)) (some ⟨w.heap.size, 0, none⟩) xs := by
  subst h
  exact Row.rd hk (heap_alloc_new w _)
theorem slD_new (w : World) (s : Int) (b : Bx) : SlD (w.alloc (.cells #[.int .i64 s, .int .i64 b.x0, .int .i64 b.y0, .int .i64 b.x1, .int .i64 b.y1] 65)) (.slice (some ⟨w.heap.size, 0, none⟩) 1 1) [⟨s, b⟩] :=
  ⟨_, 1, rfl, Nat.le_refl _, rd_new encD_len w _ 65 [⟨s, b⟩] rfl⟩

set_option maxHeartbeats 2000000 in
theorem light_any (x : P4) (w : World) (hf : Few4 x 9223372036854775807) : Calls Try.prog 9 #[agg4 x] w (RetV w (.bool (lightB x))) := by
  have h0 := hf 0
  have h1 := hf 1
  have h2 := hf 2
  have h3 := hf 3
  change x.p0.v.length ≤ _ at h0
  change x.p1.v.length ≤ _ at h1
  change x.p2.v.length ≤ _ at h2
  change x.p3.v.length ≤ _ at h3
  unfold agg4
  by_cases q0 : x.p0.v.length ≤ 200
  rotate_left
  · go_enter Try.func9, Try.ntmps9
    go_wp2
    go_ret
    exact RetV.bool (by simp [lightB, q0] <;> omega) (bw1 _ _)
  by_cases q1 : x.p1.v.length ≤ 200
  rotate_left
  · go_enter Try.func9, Try.ntmps9
    go_wp2
    go_ret
    exact RetV.bool (by simp [lightB, q0, q1] <;> omega) (bw1 _ _)
  by_cases q2 : x.p2.v.length ≤ 200
  rotate_left
  · go_enter Try.func9, Try.ntmps9
    go_wp2
    go_ret
    exact RetV.bool (by simp [lightB, q0, q1, q2] <;> omega) (bw1 _ _)
  by_cases q3 : x.p3.v.length ≤ 200
  rotate_left
  · go_enter Try.func9, Try.ntmps9
    go_wp2
    go_ret
    exact RetV.bool (by simp [lightB, q0, q1, q2, q3] <;> omega) (bw1 _ _)
  go_enter Try.func9, Try.ntmps9
  go_wp2
  go_ret
  exact RetV.bool (by simp [lightB, q0, q1, q2, q3] <;> omega) (bw1 _ _)

set_option maxRecDepth 100000 in
set_option maxHeartbeats 4000000 in
theorem proof_single (s : Int) (x : P4) (w : World) (hf : Few4 x 200) (hR : Rd4 w x) : Calls Try.prog 33 #[aggQ s x] w (DifPost (whE x) (whL s x) w) := by
  have C := Lib.hid (fun (W : World) (hb : Below w.heap.size w W) => colors_any x W (fun j => Nat.le_trans (hf j) (by omega)) (hR.below hb))
  unfold aggQ
  have k0 := bw1 w (.cells #[.int .i64 s, .int .i64 0, .slice none 0 0, .slice none 0 0, .slice none 0 0, .slice none 0 0, .int .i64 x.p0.w, .int .i64 x.p0.h, .slice x.p0.a x.p0.v.length x.p0.c, .int .i64 x.p1.w, .int .i64 x.p1.h, .slice x.p1.a x.p1.v.length x.p1.c, .int .i64 x.p2.w, .int .i64 x.p2.h, .slice x.p2.a x.p2.v.length x.p2.c, .int .i64 x.p3.w, .int .i64 x.p3.h, .slice x.p3.a x.p3.v.length x.p3.c, .int .u64 0] 59)
  have hs0 : (w.alloc (.cells #[.int .i64 s, .int .i64 0, .slice none 0 0, .slice none 0 0, .slice none 0 0, .slice none 0 0, .int .i64 x.p0.w, .int .i64 x.p0.h, .slice x.p0.a x.p0.v.length x.p0.c, .int .i64 x.p1.w, .int .i64 x.p1.h, .slice x.p1.a x.p1.v.length x.p1.c, .int .i64 x.p2.w, .int .i64 x.p2.h, .slice x.p2.a x.p2.v.length x.p2.c, .int .i64 x.p3.w, .int .i64 x.p3.h, .slice x.p3.a x.p3.v.length x.p3.c, .int .u64 0] 59)).heap.size = w.heap.size + 1 := by simp
  have hc0 : (w.alloc (.cells #[.int .i64 s, .int .i64 0, .slice none 0 0, .slice none 0 0, .slice none 0 0, .slice none 0 0, .int .i64 x.p0.w, .int .i64 x.p0.h, .slice x.p0.a x.p0.v.length x.p0.c, .int .i64 x.p1.w, .int .i64 x.p1.h, .slice x.p1.a x.p1.v.length x.p1.c, .int .i64 x.p2.w, .int .i64 x.p2.h, .slice x.p2.a x.p2.v.length x.p2.c, .int .i64 x.p3.w, .int .i64 x.p3.h, .slice x.p3.a x.p3.v.length x.p3.c, .int .u64 0] 59)).cell? ⟨w.heap.size, 0, none⟩ = some (.int .i64 s) ∧ (w.alloc (.cells #[.int .i64 s, .int .i64 0, .slice none 0 0, .slice none 0 0, .slice none 0 0, .slice none 0 0, .int .i64 x.p0.w, .int .i64 x.p0.h, .slice x.p0.a x.p0.v.length x.p0.c, .int .i64 x.p1.w, .int .i64 x.p1.h, .slice x.p1.a x.p1.v.length x.p1.c, .int .i64 x.p2.w, .int .i64 x.p2.h, .slice x.p2.a x.p2.v.length x.p2.c, .int .i64 x.p3.w, .int .i64 x.p3.h, .slice x.p3.a x.p3.v.length x.p3.c, .int .u64 0] 59)).cell? ⟨w.heap.size, 1, none⟩ = some (.int .i64 0) ∧ (w.alloc (.cells #[.int .i64 s, .int .i64 0, .slice none 0 0, .slice none 0 0, .slice none 0 0, .slice none 0 0, .int .i64 x.p0.w, .int .i64 x.p0.h, .slice x.p0.a x.p0.v.length x.p0.c, .int .i64 x.p1.w, .int .i64 x.p1.h, .slice x.p1.a x.p1.v.length x.p1.c, .int .i64 x.p2.w, .int .i64 x.p2.h, .slice x.p2.a x.p2.v.length x.p2.c, .int .i64 x.p3.w, .int .i64 x.p3.h, .slice x.p3.a x.p3.v.length x.p3.c, .int .u64 0] 59)).cell? ⟨w.heap.size, 2, none⟩ = some (.slice none 0 0) ∧ (w.alloc (.cells #[.int .i64 s, .int .i64 0, .slice none 0 0, .slice none 0 0, .slice none 0 0, .slice none 0 0, .int .i64 x.p0.w, .int .i64 x.p0.h, .slice x.p0.a x.p0.v.length x.p0.c, .int .i64 x.p1.w, .int .i64 x.p1.h, .slice x.p1.a x.p1.v.length x.p1.c, .int .i64 x.p2.w, .int .i64 x.p2.h, .slice x.p2.a x.p2.v.length x.p2.c, .int .i64 x.p3.w, .int .i64 x.p3.h, .slice x.p3.a x.p3.v.length x.p3.c, .int .u64 0] 59)).cell? ⟨w.heap.size, 3, none⟩ = some (.slice none 0 0) ∧ (w.alloc (.cells #[.int .i64 s, .int .i64 0, .slice none 0 0, .slice none 0 0, .slice none 0 0, .slice none 0 0, .int .i64 x.p0.w, .int .i64 x.p0.h, .slice x.p0.a x.p0.v.length x.p0.c, .int .i64 x.p1.w, .int .i64 x.p1.h, .slice x.p1.a x.p1.v.length x.p1.c, .int .i64 x.p2.w, .int .i64 x.p2.h, .slice x.p2.a x.p2.v.length x.p2.c, .int .i64 x.p3.w, .int .i64 x.p3.h, .slice x.p3.a x.p3.v.length x.p3.c, .int .u64 0] 59)).cell? ⟨w.heap.size, 4, none⟩ = some (.slice none 0 0) ∧ (w.alloc (.cells #[.int .i64 s, .int .i64 0, .slice none 0 0, .slice none 0 0, .slice none 0 0, .slice none 0 0, .int .i64 x.p0.w, .int .i64 x.p0.h, .slice x.p0.a x.p0.v.length x.p0.c, .int .i64 x.p1.w, .int .i64 x.p1.h, .slice x.p1.a x.p1.v.length x.p1.c, .int .i64 x.p2.w, .int .i64 x.p2.h, .slice x.p2.a x.p2.v.length x.p2.c, .int .i64 x.p3.w, .int .i64 x.p3.h, .slice x.p3.a x.p3.v.length x.p3.c, .int .u64 0] 59)).cell? ⟨w.heap.size, 5, none⟩ = some (.slice none 0 0) ∧ (w.alloc (.cells #[.int .i64 s, .int .i64 0, .slice none 0 0, .slice none 0 0, .slice none 0 0, .slice none 0 0, .int .i64 x.p0.w, .int .i64 x.p0.h, .slice x.p0.a x.p0.v.length x.p0.c, .int .i64 x.p1.w, .int .i64 x.p1.h, .slice x.p1.a x.p1.v.length x.p1.c, .int .i64 x.p2.w, .int .i64 x.p2.h, .slice x.p2.a x.p2.v.length x.p2.c, .int .i64 x.p3.w, .int .i64 x.p3.h, .slice x.p3.a x.p3.v.length x.p3.c, .int .u64 0] 59)).cell? ⟨w.heap.size, 6, none⟩ = some (.int .i64 x.p0.w) ∧ (w.alloc (.cells #[.int .i64 s, .int .i64 0, .slice none 0 0, .slice none 0 0, .slice none 0 0, .slice none 0 0, .int .i64 x.p0.w, .int .i64 x.p0.h, .slice x.p0.a x.p0.v.length x.p0.c, .int .i64 x.p1.w, .int .i64 x.p1.h, .slice x.p1.a x.p1.v.length x.p1.c, .int .i64 x.p2.w, .int .i64 x.p2.h, .slice x.p2.a x.p2.v.length x.p2.c, .int .i64 x.p3.w, .int .i64 x.p3.h, .slice x.p3.a x.p3.v.length x.p3.c, .int .u64 0] 59)).cell? ⟨w.heap.size, 7, none⟩ = some (.int .i64 x.p0.h) ∧ (w.alloc (.cells #[.int .i64 s, .int .i64 0, .slice none 0 0, .slice none 0 0, .slice none 0 0, .slice none 0 0, .int .i64 x.p0.w, .int .i64 x.p0.h, .slice x.p0.a x.p0.v.length x.p0.c, .int .i64 x.p1.w, .int .i64 x.p1.h, .slice x.p1.a x.p1.v.length x.p1.c, .int .i64 x.p2.w, .int .i64 x.p2.h, .slice x.p2.a x.p2.v.length x.p2.c, .int .i64 x.p3.w, .int .i64 x.p3.h, .slice x.p3.a x.p3.v.length x.p3.c, .int .u64 0] 59)).cell? ⟨w.heap.size, 8, none⟩ = some (.slice x.p0.a x.p0.v.length x.p0.c) ∧ (w.alloc (.cells #[.int .i64 s, .int .i64 0, .slice none 0 0, .slice none 0 0, .slice none 0 0, .slice none 0 0, .int .i64 x.p0.w, .int .i64 x.p0.h, .slice x.p0.a x.p0.v.length x.p0.c, .int .i64 x.p1.w, .int .i64 x.p1.h, .slice x.p1.a x.p1.v.length x.p1.c, .int .i64 x.p2.w, .int .i64 x.p2.h, .slice x.p2.a x.p2.v.length x.p2.c, .int .i64 x.p3.w, .int .i64 x.p3.h, .slice x.p3.a x.p3.v.length x.p3.c, .int .u64 0] 59)).cell? ⟨w.heap.size, 9, none⟩ = some (.int .i64 x.p1.w) ∧ (w.alloc (.cells #[.int .i64 s, .int .i64 0, .slice none 0 0, .slice none 0 0, .slice none 0 0, .slice none 0 0, .int .i64 x.p0.w, .int .i64 x.p0.h, .slice x.p0.a x.p0.v.length x.p0.c, .int .i64 x.p1.w, .int .i64 x.p1.h, .slice x.p1.a x.p1.v.length x.p1.c, .int .i64 x.p2.w, .int .i64 x.p2.h, .slice x.p2.a x.p2.v.length x.p2.c, .int .i64 x.p3.w, .int .i64 x.p3.h, .slice x.p3.a x.p3.v.length x.p3.c, .int .u64 0] 59)).cell? ⟨w.heap.size, 10, none⟩ = some (.int .i64 x.p1.h) ∧ (w.alloc (.cells #[.int .i64 s, .int .i64 0, .slice none 0 0, .slice none 0 0, .slice none 0 0, .slice none 0 0, .int .i64 x.p0.w, .int .i64 x.p0.h, .slice x.p0.a x.p0.v.length x.p0.c, .int .i64 x.p1.w, .int .i64 x.p1.h, .slice x.p1.a x.p1.v.length x.p1.c, .int .i64 x.p2.w, .int .i64 x.p2.h, .slice x.p2.a x.p2.v.length x.p2.c, .int .i64 x.p3.w, .int .i64 x.p3.h, .slice x.p3.a x.p3.v.length x.p3.c, .int .u64 0] 59)).cell? ⟨w.heap.size, 11, none⟩ = some (.slice x.p1.a x.p1.v.length x.p1.c) ∧ (w.alloc (.cells #[.int .i64 s, .int .i64 0, .slice none 0 0, .slice none 0 0, .slice none 0 0, .slice none 0 0, .int .i64 x.p0.w, .int .i64 x.p0.h, .slice x.p0.a x.p0.v.length x.p0.c, .int .i64 x.p1.w, .int .i64 x.p1.h, .slice x.p1.a x.p1.v.length x.p1.c, .int .i64 x.p2.w, .int .i64 x.p2.h, .slice x.p2.a x.p2.v.length x.p2.c, .int .i64 x.p3.w, .int .i64 x.p3.h, .slice x.p3.a x.p3.v.length x.p3.c, .int .u64 0] 59)).cell? ⟨w.heap.size, 12, none⟩ = some (.int .i64 x.p2.w) ∧ (w.alloc (.cells #[.int .i64 s, .int .i64 0, .slice none 0 0, .slice none 0 0, .slice none 0 0, .slice none 0 0, .int .i64 x.p0.w, .int .i64 x.p0.h, .slice x.p0.a x.p0.v.length x.p0.c, .int .i64 x.p1.w, .int .i64 x.p1.h, .slice x.p1.a x.p1.v.length x.p1.c, .int .i64 x.p2.w, .int .i64 x.p2.h, .slice x.p2.a x.p2.v.length x.p2.c, .int .i64 x.p3.w, .int .i64 x.p3.h, .slice x.p3.a x.p3.v.length x.p3.c, .int .u64 0] 59)).cell? ⟨w.heap.size, 13, none⟩ = some (.int .i64 x.p2.h) ∧ (w.alloc (.cells #[.int .i64 s, .int .i64 0, .slice none 0 0, .slice none 0 0, .slice none 0 0, .slice none 0 0, .int .i64 x.p0.w, .int .i64 x.p0.h, .slice x.p0.a x.p0.v.length x.p0.c, .int .i64 x.p1.w, .int .i64 x.p1.h, .slice x.p1.a x.p1.v.length x.p1.c, .int .i64 x.p2.w, .int .i64 x.p2.h, .slice x.p2.a x.p2.v.length x.p2.c, .int .i64 x.p3.w, .int .i64 x.p3.h, .slice x.p3.a x.p3.v.length x.p3.c, .int .u64 0] 59)).cell? ⟨w.heap.size, 14, none⟩ = some (.slice x.p2.a x.p2.v.length x.p2.c) ∧ (w.alloc (.cells #[.int .i64 s, .int .i64 0, .slice none 0 0, .slice none 0 0, .slice none 0 0, .slice none 0 0, .int .i64 x.p0.w, .int .i64 x.p0.h, .slice x.p0.a x.p0.v.length x.p0.c, .int .i64 x.p1.w, .int .i64 x.p1.h, .slice x.p1.a x.p1.v.length x.p1.c, .int .i64 x.p2.w, .int .i64 x.p2.h, .slice x.p2.a x.p2.v.length x.p2.c, .int .i64 x.p3.w, .int .i64 x.p3.h, .slice x.p3.a x.p3.v.length x.p3.c, .int .u64 0] 59)).cell? ⟨w.heap.size, 15, none⟩ = some (.int .i64 x.p3.w) ∧ (w.alloc (.cells #[.int .i64 s, .int .i64 0, .slice none 0 0, .slice none 0 0, .slice none 0 0, .slice none 0 0, .int .i64 x.p0.w, .int .i64 x.p0.h, .slice x.p0.a x.p0.v.length x.p0.c, .int .i64 x.p1.w, .int .i64 x.p1.h, .slice x.p1.a x.p1.v.length x.p1.c, .int .i64 x.p2.w, .int .i64 x.p2.h, .slice x.p2.a x.p2.v.length x.p2.c, .int .i64 x.p3.w, .int .i64 x.p3.h, .slice x.p3.a x.p3.v.length x.p3.c, .int .u64 0] 59)).cell? ⟨w.heap.size, 16, none⟩ = some (.int .i64 x.p3.h) ∧ (w.alloc (.cells #[.int .i64 s, .int .i64 0, .slice none 0 0, .slice none 0 0, .slice none 0 0, .slice none 0 0, .int .i64 x.p0.w, .int .i64 x.p0.h, .slice x.p0.a x.p0.v.length x.p0.c, .int .i64 x.p1.w, .int .i64 x.p1.h, .slice x.p1.a x.p1.v.length x.p1.c, .int .i64 x.p2.w, .int .i64 x.p2.h, .slice x.p2.a x.p2.v.length x.p2.c, .int .i64 x.p3.w, .int .i64 x.p3.h, .slice x.p3.a x.p3.v.length x.p3.c, .int .u64 0] 59)).cell? ⟨w.heap.size, 17, none⟩ = some (.slice x.p3.a x.p3.v.length x.p3.c) ∧ (w.alloc (.cells #[.int .i64 s, .int .i64 0, .slice none 0 0, .slice none 0 0, .slice none 0 0, .slice none 0 0, .int .i64 x.p0.w, .int .i64 x.p0.h, .slice x.p0.a x.p0.v.length x.p0.c, .int .i64 x.p1.w, .int .i64 x.p1.h, .slice x.p1.a x.p1.v.length x.p1.c, .int .i64 x.p2.w, .int .i64 x.p2.h, .slice x.p2.a x.p2.v.length x.p2.c, .int .i64 x.p3.w, .int .i64 x.p3.h, .slice x.p3.a x.p3.v.length x.p3.c, .int .u64 0] 59)).cell? ⟨w.heap.size, 18, none⟩ = some (.int .u64 0) := by
    refine ⟨?_, ?_, ?_, ?_, ?_, ?_, ?_, ?_, ?_, ?_, ?_, ?_, ?_, ?_, ?_, ?_, ?_, ?_, ?_⟩ <;> simp
  go_enter Try.func33, Try.ntmps33
  go_wp2_with fail
  generalize (w.alloc (.cells #[.int .i64 s, .int .i64 0, .slice none 0 0, .slice none 0 0, .slice none 0 0, .slice none 0 0, .int .i64 x.p0.w, .int .i64 x.p0.h, .slice x.p0.a x.p0.v.length x.p0.c, .int .i64 x.p1.w, .int .i64 x.p1.h, .slice x.p1.a x.p1.v.length x.p1.c, .int .i64 x.p2.w, .int .i64 x.p2.h, .slice x.p2.a x.p2.v.length x.p2.c, .int .i64 x.p3.w, .int .i64 x.p3.h, .slice x.p3.a x.p3.v.length x.p3.c, .int .u64 0] 59)) = w0 at *
  have HB : Hid (∀ W, Below w0.heap.size w0 W → W.cell? ⟨w.heap.size, 0, none⟩ = some (.int .i64 s) ∧ W.cell? ⟨w.heap.size, 1, none⟩ = some (.int .i64 0) ∧ W.cell? ⟨w.heap.size, 2, none⟩ = some (.slice none 0 0) ∧ W.cell? ⟨w.heap.size, 3, none⟩ = some (.slice none 0 0) ∧ W.cell? ⟨w.heap.size, 4, none⟩ = some (.slice none 0 0) ∧ W.cell? ⟨w.heap.size, 5, none⟩ = some (.slice none 0 0) ∧ W.cell? ⟨w.heap.size, 6, none⟩ = some (.int .i64 x.p0.w) ∧ W.cell? ⟨w.heap.size, 7, none⟩ = some (.int .i64 x.p0.h) ∧ W.cell? ⟨w.heap.size, 8, none⟩ = some (.slice x.p0.a x.p0.v.length x.p0.c) ∧ W.cell? ⟨w.heap.size, 9, none⟩ = some (.int .i64 x.p1.w) ∧ W.cell? ⟨w.heap.size, 10, none⟩ = some (.int .i64 x.p1.h) ∧ W.cell? ⟨w.heap.size, 11, none⟩ = some (.slice x.p1.a x.p1.v.length x.p1.c) ∧ W.cell? ⟨w.heap.size, 12, none⟩ = some (.int .i64 x.p2.w) ∧ W.cell? ⟨w.heap.size, 13, none⟩ = some (.int .i64 x.p2.h) ∧ W.cell? ⟨w.heap.size, 14, none⟩ = some (.slice x.p2.a x.p2.v.length x.p2.c) ∧ W.cell? ⟨w.heap.size, 15, none⟩ = some (.int .i64 x.p3.w) ∧ W.cell? ⟨w.heap.size, 16, none⟩ = some (.int .i64 x.p3.h) ∧ W.cell? ⟨w.heap.size, 17, none⟩ = some (.slice x.p3.a x.p3.v.length x.p3.c) ∧ W.cell? ⟨w.heap.size, 18, none⟩ = some (.int .u64 0)) := Lib.hid (fun W hb => by
    obtain ⟨c0, c1, c2, c3, c4, c5, c6, c7, c8, c9, c10, c11, c12, c13, c14, c15, c16, c17, c18⟩ := hc0
    have hlt : w.heap.size < w0.heap.size := by omega
    exact ⟨(hb.cell (p := ⟨w.heap.size, 0, none⟩) hlt).trans c0, (hb.cell (p := ⟨w.heap.size, 1, none⟩) hlt).trans c1, (hb.cell (p := ⟨w.heap.size, 2, none⟩) hlt).trans c2, (hb.cell (p := ⟨w.heap.size, 3, none⟩) hlt).trans c3, (hb.cell (p := ⟨w.heap.size, 4, none⟩) hlt).trans c4, (hb.cell (p := ⟨w.heap.size, 5, none⟩) hlt).trans c5, (hb.cell (p := ⟨w.heap.size, 6, none⟩) hlt).trans c6, (hb.cell (p := ⟨w.heap.size, 7, none⟩) hlt).trans c7, (hb.cell (p := ⟨w.heap.size, 8, none⟩) hlt).trans c8, (hb.cell (p := ⟨w.heap.size, 9, none⟩) hlt).trans c9, (hb.cell (p := ⟨w.heap.size, 10, none⟩) hlt).trans c10, (hb.cell (p := ⟨w.heap.size, 11, none⟩) hlt).trans c11, (hb.cell (p := ⟨w.heap.size, 12, none⟩) hlt).trans c12, (hb.cell (p := ⟨w.heap.size, 13, none⟩) hlt).trans c13, (hb.cell (p := ⟨w.heap.size, 14, none⟩) hlt).trans c14, (hb.cell (p := ⟨w.heap.size, 15, none⟩) hlt).trans c15, (hb.cell (p := ⟨w.heap.size, 16, none⟩) hlt).trans c16, (hb.cell (p := ⟨w.heap.size, 17, none⟩) hlt).trans c17, (hb.cell (p := ⟨w.heap.size, 18, none⟩) hlt).trans c18⟩)
  clear hc0
  refine (C.out w0 k0).mono ?_
  rintro e w1 ⟨va, rfl, hSa, hb1⟩
  have kw1 := k0.trans (hb1.mono k0.size)
  by_cases ha : colE x = 0
  rotate_left
  · obtain ⟨r, hr⟩ : ∃ r, colE x = r := ⟨_, rfl⟩
    rw [hr] at ha ⊢
    have HR := Lib.hid hr
    clear hr hSa
    have hrb : (r != 0) = true := by simp [ha]
    go_wp2
    go_ret2
    exact difPost_err (by unfold whE; rw [HR.out]) ha (by unfold whL; rw [if_neg (by rw [HR.out]; exact ha)]) kw1
  rw [ha]
  have HAZ := Lib.hid ha
  have hz := chk_zero ((colE_zero ha).1 0 (by omega))
  obtain ⟨z1, z2, _, _⟩ := hz
  change 1 ≤ x.p0.w ∧ x.p0.w ≤ 256 at z1
  change 1 ≤ x.p0.h ∧ x.p0.h ≤ 256 at z2
  have hw1 : IntKind.i64.wrap (x.p0.w - 1) = x.p0.w - 1 := IntWalk.i64_in _ (by omega)
  have hw2 : IntKind.i64.wrap (x.p0.h - 1) = x.p0.h - 1 := IntWalk.i64_in _ (by omega)
  clear ha hSa
  obtain ⟨c0, c1, c2, c3, c4, c5, c6, c7, c8, c9, c10, c11, c12, c13, c14, c15, c16, c17, c18⟩ := HB.out w1 hb1
  have hlt1 : w.heap.size < w1.heap.size := by have := hb1.size; omega
  go_wp2
  go_ret2
  have hwl : whL s x = [⟨s, ⟨0, 0, x.p0.w - 1, x.p0.h - 1⟩⟩] := by unfold whL; rw [if_pos HAZ.out]
  rw [hwl]
  have hn := slD_new (w1.alloc (.cells #[.int .i64 0, .int .i64 0, .int .i64 (x.p0.w - 1), .int .i64 (x.p0.h - 1)] 38)) s ⟨0, 0, x.p0.w - 1, x.p0.h - 1⟩
  rw [show (w1.alloc (.cells #[.int .i64 0, .int .i64 0, .int .i64 (x.p0.w - 1), .int .i64 (x.p0.h - 1)] 38)).heap.size = w1.heap.size + 1 from by simp] at hn
  exact ⟨.slice (some ⟨w1.heap.size + 1, 0, none⟩) 1 1, by rw [show whE x = 0 from HAZ.out]; rfl, hn, kw1.trans (((bw1 _ _).alloc (by simp) _).mono kw1.size)⟩

set_option maxRecDepth 100000 in
set_option maxHeartbeats 4000000 in
theorem ref_whole (s : Int) (x : P4) (w : World) (hf : Few4 x 200) (hR : Rd4 w x) : Calls Try.prog 38 #[aggQ s x] w (DifPost (whE x) (whL s x) w) := by
  have C := Lib.hid (fun (W : World) (hb : Below w.heap.size w W) => ref_colors x W (fun j => Nat.le_trans (hf j) (by omega)) (hR.below hb))
  unfold aggQ
  have k0 := bw1 w (.cells #[.int .i64 s, .int .i64 0, .slice none 0 0, .slice none 0 0, .slice none 0 0, .slice none 0 0, .int .i64 x.p0.w, .int .i64 x.p0.h, .slice x.p0.a x.p0.v.length x.p0.c, .int .i64 x.p1.w, .int .i64 x.p1.h, .slice x.p1.a x.p1.v.length x.p1.c, .int .i64 x.p2.w, .int .i64 x.p2.h, .slice x.p2.a x.p2.v.length x.p2.c, .int .i64 x.p3.w, .int .i64 x.p3.h, .slice x.p3.a x.p3.v.length x.p3.c, .int .u64 0] 59)
  have hs0 : (w.alloc (.cells #[.int .i64 s, .int .i64 0, .slice none 0 0, .slice none 0 0, .slice none 0 0, .slice none 0 0, .int .i64 x.p0.w, .int .i64 x.p0.h, .slice x.p0.a x.p0.v.length x.p0.c, .int .i64 x.p1.w, .int .i64 x.p1.h, .slice x.p1.a x.p1.v.length x.p1.c, .int .i64 x.p2.w, .int .i64 x.p2.h, .slice x.p2.a x.p2.v.length x.p2.c, .int .i64 x.p3.w, .int .i64 x.p3.h, .slice x.p3.a x.p3.v.length x.p3.c, .int .u64 0] 59)).heap.size = w.heap.size + 1 := by simp
  have hc0 : (w.alloc (.cells #[.int .i64 s, .int .i64 0, .slice none 0 0, .slice none 0 0, .slice none 0 0, .slice none 0 0, .int .i64 x.p0.w, .int .i64 x.p0.h, .slice x.p0.a x.p0.v.length x.p0.c, .int .i64 x.p1.w, .int .i64 x.p1.h, .slice x.p1.a x.p1.v.length x.p1.c, .int .i64 x.p2.w, .int .i64 x.p2.h, .slice x.p2.a x.p2.v.length x.p2.c, .int .i64 x.p3.w, .int .i64 x.p3.h, .slice x.p3.a x.p3.v.length x.p3.c, .int .u64 0] 59)).cell? ⟨w.heap.size, 0, none⟩ = some (.int .i64 s) ∧ (w.alloc (.cells #[.int .i64 s, .int .i64 0, .slice none 0 0, .slice none 0 0, .slice none 0 0, .slice none 0 0, .int .i64 x.p0.w, .int .i64 x.p0.h, .slice x.p0.a x.p0.v.length x.p0.c, .int .i64 x.p1.w, .int .i64 x.p1.h, .slice x.p1.a x.p1.v.length x.p1.c, .int .i64 x.p2.w, .int .i64 x.p2.h, .slice x.p2.a x.p2.v.length x.p2.c, .int .i64 x.p3.w, .int .i64 x.p3.h, .slice x.p3.a x.p3.v.length x.p3.c, .int .u64 0] 59)).cell? ⟨w.heap.size, 1, none⟩ = some (.int .i64 0) ∧ (w.alloc (.cells #[.int .i64 s, .int .i64 0, .slice none 0 0, .slice none 0 0, .slice none 0 0, .slice none 0 0, .int .i64 x.p0.w, .int .i64 x.p0.h, .slice x.p0.a x.p0.v.length x.p0.c, .int .i64 x.p1.w, .int .i64 x.p1.h, .slice x.p1.a x.p1.v.length x.p1.c, .int .i64 x.p2.w, .int .i64 x.p2.h, .slice x.p2.a x.p2.v.length x.p2.c, .int .i64 x.p3.w, .int .i64 x.p3.h, .slice x.p3.a x.p3.v.length x.p3.c, .int .u64 0] 59)).cell? ⟨w.heap.size, 2, none⟩ = some (.slice none 0 0) ∧ (w.alloc (.cells #[.int .i64 s, .int .i64 0, .slice none 0 0, .slice none 0 0, .slice none 0 0, .slice none 0 0, .int .i64 x.p0.w, .int .i64 x.p0.h, .slice x.p0.a x.p0.v.length x.p0.c, .int .i64 x.p1.w, .int .i64 x.p1.h, .slice x.p1.a x.p1.v.length x.p1.c, .int .i64 x.p2.w, .int .i64 x.p2.h, .slice x.p2.a x.p2.v.length x.p2.c, .int .i64 x.p3.w, .int .i64 x.p3.h, .slice x.p3.a x.p3.v.length x.p3.c, .int .u64 0] 59)).cell? ⟨w.heap.size, 3, none⟩ = some (.slice none 0 0) ∧ (w.alloc (.cells #[.int .i64 s, .int .i64 0, .slice none 0 0, .slice none 0 0, .slice none 0 0, .slice none 0 0, .int .i64 x.p0.w, .int .i64 x.p0.h, .slice x.p0.a x.p0.v.length x.p0.c, .int .i64 x.p1.w, .int .i64 x.p1.h, .slice x.p1.a x.p1.v.length x.p1.c, .int .i64 x.p2.w, .int .i64 x.p2.h, .slice x.p2.a x.p2.v.length x.p2.c, .int .i64 x.p3.w, .int .i64 x.p3.h, .slice x.p3.a x.p3.v.length x.p3.c, .int .u64 0] 59)).cell? ⟨w.heap.size, 4, none⟩ = some (.slice none 0 0) ∧ (w.alloc (.cells #[.int .i64 s, .int .i64 0, .slice none 0 0, .slice none 0 0, .slice none 0 0, .slice none 0 0, .int .i64 x.p0.w, .int .i64 x.p0.h, .slice x.p0.a x.p0.v.length x.p0.c, .int .i64 x.p1.w, .int .i64 x.p1.h, .slice x.p1.a x.p1.v.length x.p1.c, .int .i64 x.p2.w, .int .i64 x.p2.h, .slice x.p2.a x.p2.v.length x.p2.c, .int .i64 x.p3.w, .int .i64 x.p3.h, .slice x.p3.a x.p3.v.length x.p3.c, .int .u64 0] 59)).cell? ⟨w.heap.size, 5, none⟩ = some (.slice none 0 0) ∧ (w.alloc (.cells #[.int .i64 s, .int .i64 0, .slice none 0 0, .slice none 0 0, .slice none 0 0, .slice none 0 0, .int .i64 x.p0.w, .int .i64 x.p0.h, .slice x.p0.a x.p0.v.length x.p0.c, .int .i64 x.p1.w, .int .i64 x.p1.h, .slice x.p1.a x.p1.v.length x.p1.c, .int .i64 x.p2.w, .int .i64 x.p2.h, .slice x.p2.a x.p2.v.length x.p2.c, .int .i64 x.p3.w, .int .i64 x.p3.h, .slice x.p3.a x.p3.v.length x.p3.c, .int .u64 0] 59)).cell? ⟨w.heap.size, 6, none⟩ = some (.int .i64 x.p0.w) ∧ (w.alloc (.cells #[.int .i64 s, .int .i64 0, .slice none 0 0, .slice none 0 0, .slice none 0 0, .slice none 0 0, .int .i64 x.p0.w, .int .i64 x.p0.h, .slice x.p0.a x.p0.v.length x.p0.c, .int .i64 x.p1.w, .int .i64 x.p1.h, .slice x.p1.a x.p1.v.length x.p1.c, .int .i64 x.p2.w, .int .i64 x.p2.h, .slice x.p2.a x.p2.v.length x.p2.c, .int .i64 x.p3.w, .int .i64 x.p3.h, .slice x.p3.a x.p3.v.length x.p3.c, .int .u64 0] 59)).cell? ⟨w.heap.size, 7, none⟩ = some (.int .i64 x.p0.h) ∧ (w.alloc (.cells #[.int .i64 s, .int .i64 0, .slice none 0 0, .slice none 0 0, .slice none 0 0, .slice none 0 0, .int .i64 x.p0.w, .int .i64 x.p0.h, .slice x.p0.a x.p0.v.length x.p0.c, .int .i64 x.p1.w, .int .i64 x.p1.h, .slice x.p1.a x.p1.v.length x.p1.c, .int .i64 x.p2.w, .int .i64 x.p2.h, .slice x.p2.a x.p2.v.length x.p2.c, .int .i64 x.p3.w, .int .i64 x.p3.h, .slice x.p3.a x.p3.v.length x.p3.c, .int .u64 0] 59)).cell? ⟨w.heap.size, 8, none⟩ = some (.slice x.p0.a x.p0.v.length x.p0.c) ∧ (w.alloc (.cells #[.int .i64 s, .int .i64 0, .slice none 0 0, .slice none 0 0, .slice none 0 0, .slice none 0 0, .int .i64 x.p0.w, .int .i64 x.p0.h, .slice x.p0.a x.p0.v.length x.p0.c, .int .i64 x.p1.w, .int .i64 x.p1.h, .slice x.p1.a x.p1.v.length x.p1.c, .int .i64 x.p2.w, .int .i64 x.p2.h, .slice x.p2.a x.p2.v.length x.p2.c, .int .i64 x.p3.w, .int .i64 x.p3.h, .slice x.p3.a x.p3.v.length x.p3.c, .int .u64 0] 59)).cell? ⟨w.heap.size, 9, none⟩ = some (.int .i64 x.p1.w) ∧ (w.alloc (.cells #[.int .i64 s, .int .i64 0, .slice none 0 0, .slice none 0 0, .slice none 0 0, .slice none 0 0, .int .i64 x.p0.w, .int .i64 x.p0.h, .slice x.p0.a x.p0.v.length x.p0.c, .int .i64 x.p1.w, .int .i64 x.p1.h, .slice x.p1.a x.p1.v.length x.p1.c, .int .i64 x.p2.w, .int .i64 x.p2.h, .slice x.p2.a x.p2.v.length x.p2.c, .int .i64 x.p3.w, .int .i64 x.p3.h, .slice x.p3.a x.p3.v.length x.p3.c, .int .u64 0] 59)).cell? ⟨w.heap.size, 10, none⟩ = some (.int .i64 x.p1.h) ∧ (w.alloc (.cells #[.int .i64 s, .int .i64 0, .slice none 0 0, .slice none 0 0, .slice none 0 0, .slice none 0 0, .int .i64 x.p0.w, .int .i64 x.p0.h, .slice x.p0.a x.p0.v.length x.p0.c, .int .i64 x.p1.w, .int .i64 x.p1.h, .slice x.p1.a x.p1.v.length x.p1.c, .int .i64 x.p2.w, .int .i64 x.p2.h, .slice x.p2.a x.p2.v.length x.p2.c, .int .i64 x.p3.w, .int .i64 x.p3.h, .slice x.p3.a x.p3.v.length x.p3.c, .int .u64 0] 59)).cell? ⟨w.heap.size, 11, none⟩ = some (.slice x.p1.a x.p1.v.length x.p1.c) ∧ (w.alloc (.cells #[.int .i64 s, .int .i64 0, .slice none 0 0, .slice none 0 0, .slice none 0 0, .slice none 0 0, .int .i64 x.p0.w, .int .i64 x.p0.h, .slice x.p0.a x.p0.v.length x.p0.c, .int .i64 x.p1.w, .int .i64 x.p1.h, .slice x.p1.a x.p1.v.length x.p1.c, .int .i64 x.p2.w, .int .i64 x.p2.h, .slice x.p2.a x.p2.v.length x.p2.c, .int .i64 x.p3.w, .int .i64 x.p3.h, .slice x.p3.a x.p3.v.length x.p3.c, .int .u64 0] 59)).cell? ⟨w.heap.size, 12, none⟩ = some (.int .i64 x.p2.w) ∧ (w.alloc (.cells #[.int .i64 s, .int .i64 0, .slice none 0 0, .slice none 0 0, .slice none 0 0, .slice none 0 0, .int .i64 x.p0.w, .int .i64 x.p0.h, .slice x.p0.a x.p0.v.length x.p0.c, .int .i64 x.p1.w, .int .i64 x.p1.h, .slice x.p1.a x.p1.v.length x.p1.c, .int .i64 x.p2.w, .int .i64 x.p2.h, .slice x.p2.a x.p2.v.length x.p2.c, .int .i64 x.p3.w, .int .i64 x.p3.h, .slice x.p3.a x.p3.v.length x.p3.c, .int .u64 0] 59)).cell? ⟨w.heap.size, 13, none⟩ = some (.int .i64 x.p2.h) ∧ (w.alloc (.cells #[.int .i64 s, .int .i64 0, .slice none 0 0, .slice none 0 0, .slice none 0 0, .slice none 0 0, .int .i64 x.p0.w, .int .i64 x.p0.h, .slice x.p0.a x.p0.v.length x.p0.c, .int .i64 x.p1.w, .int .i64 x.p1.h, .slice x.p1.a x.p1.v.length x.p1.c, .int .i64 x.p2.w, .int .i64 x.p2.h, .slice x.p2.a x.p2.v.length x.p2.c, .int .i64 x.p3.w, .int .i64 x.p3.h, .slice x.p3.a x.p3.v.length x.p3.c, .int .u64 0] 59)).cell? ⟨w.heap.size, 14, none⟩ = some (.slice x.p2.a x.p2.v.length x.p2.c) ∧ (w.alloc (.cells #[.int .i64 s, .int .i64 0, .slice none 0 0, .slice none 0 0, .slice none 0 0, .slice none 0 0, .int .i64 x.p0.w, .int .i64 x.p0.h, .slice x.p0.a x.p0.v.length x.p0.c, .int .i64 x.p1.w, .int .i64 x.p1.h, .slice x.p1.a x.p1.v.length x.p1.c, .int .i64 x.p2.w, .int .i64 x.p2.h, .slice x.p2.a x.p2.v.length x.p2.c, .int .i64 x.p3.w, .int .i64 x.p3.h, .slice x.p3.a x.p3.v.length x.p3.c, .int .u64 0] 59)).cell? ⟨w.heap.size, 15, none⟩ = some (.int .i64 x.p3.w) ∧ (w.alloc (.cells #[.int .i64 s, .int .i64 0, .slice none 0 0, .slice none 0 0, .slice none 0 0, .slice none 0 0, .int .i64 x.p0.w, .int .i64 x.p0.h, .slice x.p0.a x.p0.v.length x.p0.c, .int .i64 x.p1.w, .int .i64 x.p1.h, .slice x.p1.a x.p1.v.length x.p1.c, .int .i64 x.p2.w, .int .i64 x.p2.h, .slice x.p2.a x.p2.v.length x.p2.c, .int .i64 x.p3.w, .int .i64 x.p3.h, .slice x.p3.a x.p3.v.length x.p3.c, .int .u64 0] 59)).cell? ⟨w.heap.size, 16, none⟩ = some (.int .i64 x.p3.h) ∧ (w.alloc (.cells #[.int .i64 s, .int .i64 0, .slice none 0 0, .slice none 0 0, .slice none 0 0, .slice none 0 0, .int .i64 x.p0.w, .int .i64 x.p0.h, .slice x.p0.a x.p0.v.length x.p0.c, .int .i64 x.p1.w, .int .i64 x.p1.h, .slice x.p1.a x.p1.v.length x.p1.c, .int .i64 x.p2.w, .int .i64 x.p2.h, .slice x.p2.a x.p2.v.length x.p2.c, .int .i64 x.p3.w, .int .i64 x.p3.h, .slice x.p3.a x.p3.v.length x.p3.c, .int .u64 0] 59)).cell? ⟨w.heap.size, 17, none⟩ = some (.slice x.p3.a x.p3.v.length x.p3.c) ∧ (w.alloc (.cells #[.int .i64 s, .int .i64 0, .slice none 0 0, .slice none 0 0, .slice none 0 0, .slice none 0 0, .int .i64 x.p0.w, .int .i64 x.p0.h, .slice x.p0.a x.p0.v.length x.p0.c, .int .i64 x.p1.w, .int .i64 x.p1.h, .slice x.p1.a x.p1.v.length x.p1.c, .int .i64 x.p2.w, .int .i64 x.p2.h, .slice x.p2.a x.p2.v.length x.p2.c, .int .i64 x.p3.w, .int .i64 x.p3.h, .slice x.p3.a x.p3.v.length x.p3.c, .int .u64 0] 59)).cell? ⟨w.heap.size, 18, none⟩ = some (.int .u64 0) := by
    refine ⟨?_, ?_, ?_, ?_, ?_, ?_, ?_, ?_, ?_, ?_, ?_, ?_, ?_, ?_, ?_, ?_, ?_, ?_, ?_⟩ <;> simp
  go_enter Try.func38, Try.ntmps38
  go_wp2_with fail
  generalize (w.alloc (.cells #[.int .i64 s, .int .i64 0, .slice none 0 0, .slice none 0 0, .slice none 0 0, .slice none 0 0, .int .i64 x.p0.w, .int .i64 x.p0.h, .slice x.p0.a x.p0.v.length x.p0.c, .int .i64 x.p1.w, .int .i64 x.p1.h, .slice x.p1.a x.p1.v.length x.p1.c, .int .i64 x.p2.w, .int .i64 x.p2.h, .slice x.p2.a x.p2.v.length x.p2.c, .int .i64 x.p3.w, .int .i64 x.p3.h, .slice x.p3.a x.p3.v.length x.p3.c, .int .u64 0] 59)) = w0 at *
  have HB : Hid (∀ W, Below w0.heap.size w0 W → W.cell? ⟨w.heap.size, 0, none⟩ = some (.int .i64 s) ∧ W.cell? ⟨w.heap.size, 1, none⟩ = some (.int .i64 0) ∧ W.cell? ⟨w.heap.size, 2, none⟩ = some (.slice none 0 0) ∧ W.cell? ⟨w.heap.size, 3, none⟩ = some (.slice none 0 0) ∧ W.cell? ⟨w.heap.size, 4, none⟩ = some (.slice none 0 0) ∧ W.cell? ⟨w.heap.size, 5, none⟩ = some (.slice none 0 0) ∧ W.cell? ⟨w.heap.size, 6, none⟩ = some (.int .i64 x.p0.w) ∧ W.cell? ⟨w.heap.size, 7, none⟩ = some (.int .i64 x.p0.h) ∧ W.cell? ⟨w.heap.size, 8, none⟩ = some (.slice x.p0.a x.p0.v.length x.p0.c) ∧ W.cell? ⟨w.heap.size, 9, none⟩ = some (.int .i64 x.p1.w) ∧ W.cell? ⟨w.heap.size, 10, none⟩ = some (.int .i64 x.p1.h) ∧ W.cell? ⟨w.heap.size, 11, none⟩ = some (.slice x.p1.a x.p1.v.length x.p1.c) ∧ W.cell? ⟨w.heap.size, 12, none⟩ = some (.int .i64 x.p2.w) ∧ W.cell? ⟨w.heap.size, 13, none⟩ = some (.int .i64 x.p2.h) ∧ W.cell? ⟨w.heap.size, 14, none⟩ = some (.slice x.p2.a x.p2.v.length x.p2.c) ∧ W.cell? ⟨w.heap.size, 15, none⟩ = some (.int .i64 x.p3.w) ∧ W.cell? ⟨w.heap.size, 16, none⟩ = some (.int .i64 x.p3.h) ∧ W.cell? ⟨w.heap.size, 17, none⟩ = some (.slice x.p3.a x.p3.v.length x.p3.c) ∧ W.cell? ⟨w.heap.size, 18, none⟩ = some (.int .u64 0)) := Lib.hid (fun W hb => by
    obtain ⟨c0, c1, c2, c3, c4, c5, c6, c7, c8, c9, c10, c11, c12, c13, c14, c15, c16, c17, c18⟩ := hc0
    have hlt : w.heap.size < w0.heap.size := by omega
    exact ⟨(hb.cell (p := ⟨w.heap.size, 0, none⟩) hlt).trans c0, (hb.cell (p := ⟨w.heap.size, 1, none⟩) hlt).trans c1, (hb.cell (p := ⟨w.heap.size, 2, none⟩) hlt).trans c2, (hb.cell (p := ⟨w.heap.size, 3, none⟩) hlt).trans c3, (hb.cell (p := ⟨w.heap.size, 4, none⟩) hlt).trans c4, (hb.cell (p := ⟨w.heap.size, 5, none⟩) hlt).trans c5, (hb.cell (p := ⟨w.heap.size, 6, none⟩) hlt).trans c6, (hb.cell (p := ⟨w.heap.size, 7, none⟩) hlt).trans c7, (hb.cell (p := ⟨w.heap.size, 8, none⟩) hlt).trans c8, (hb.cell (p := ⟨w.heap.size, 9, none⟩) hlt).trans c9, (hb.cell (p := ⟨w.heap.size, 10, none⟩) hlt).trans c10, (hb.cell (p := ⟨w.heap.size, 11, none⟩) hlt).trans c11, (hb.cell (p := ⟨w.heap.size, 12, none⟩) hlt).trans c12, (hb.cell (p := ⟨w.heap.size, 13, none⟩) hlt).trans c13, (hb.cell (p := ⟨w.heap.size, 14, none⟩) hlt).trans c14, (hb.cell (p := ⟨w.heap.size, 15, none⟩) hlt).trans c15, (hb.cell (p := ⟨w.heap.size, 16, none⟩) hlt).trans c16, (hb.cell (p := ⟨w.heap.size, 17, none⟩) hlt).trans c17, (hb.cell (p := ⟨w.heap.size, 18, none⟩) hlt).trans c18⟩)
  clear hc0
  refine (C.out w0 k0).mono ?_
  rintro e w1 ⟨va, rfl, hSa, hb1⟩
  have kw1 := k0.trans (hb1.mono k0.size)
  by_cases ha : colE x = 0
  rotate_left
  · obtain ⟨r, hr⟩ : ∃ r, colE x = r := ⟨_, rfl⟩
    rw [hr] at ha ⊢
    have HR := Lib.hid hr
    clear hr hSa
    have hrb : (r != 0) = true := by simp [ha]
    go_wp2
    go_ret2
    exact difPost_err (by unfold whE; rw [HR.out]) ha (by unfold whL; rw [if_neg (by rw [HR.out]; exact ha)]) kw1
  rw [ha]
  have HAZ := Lib.hid ha
  have hz := chk_zero ((colE_zero ha).1 0 (by omega))
  obtain ⟨z1, z2, _, _⟩ := hz
  change 1 ≤ x.p0.w ∧ x.p0.w ≤ 256 at z1
  change 1 ≤ x.p0.h ∧ x.p0.h ≤ 256 at z2
  have hw1 : IntKind.i64.wrap (x.p0.w - 1) = x.p0.w - 1 := IntWalk.i64_in _ (by omega)
  have hw2 : IntKind.i64.wrap (x.p0.h - 1) = x.p0.h - 1 := IntWalk.i64_in _ (by omega)
  clear ha hSa
  obtain ⟨c0, c1, c2, c3, c4, c5, c6, c7, c8, c9, c10, c11, c12, c13, c14, c15, c16, c17, c18⟩ := HB.out w1 hb1
  have hlt1 : w.heap.size < w1.heap.size := by have := hb1.size; omega
  go_wp2
  go_ret2
  have hwl : whL s x = [⟨s, ⟨0, 0, x.p0.w - 1, x.p0.h - 1⟩⟩] := by unfold whL; rw [if_pos HAZ.out]
  rw [hwl]
  exact ⟨.slice (some ⟨w1.heap.size, 0, none⟩) 1 1, by rw [show whE x = 0 from HAZ.out]; rfl, slD_new w1 s ⟨0, 0, x.p0.w - 1, x.p0.h - 1⟩, kw1.trans ((bw1 _ _).mono kw1.size)⟩

end Go.Proofs
