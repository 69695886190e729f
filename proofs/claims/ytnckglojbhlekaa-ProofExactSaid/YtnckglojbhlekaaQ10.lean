/- Boxes, the program's. -/
import Derived.Test.YtnckglojbhlekaaQ9
set_option linter.unusedVariables false
set_option linter.unusedSimpArgs false
namespace Go.Proofs
open Go.RowKit Go.Proofs.Mp Go.Maps

theorem norm_bounds (ra rb : List Int) {n : Nat} (hn : ra.length ≤ n) : ∀ q ∈ normL (diffR ra rb), 0 ≤ q.1 ∧ q.1 < q.2 ∧ q.2 ≤ n := by
  intro q hq
  have hv := normL_vld (diffR ra rb)
  have h1 := hv.1 q hq
  have h2 : q.2 ≤ (ra.length : Int) := by
    rw [← norm_diff] at hq
    exact merge_hi ra rb ra.length q hq
  have h3 : hasL (normL (diffR ra rb)) q.1 = true := hasL_iff.2 ⟨q, hq, Int.le_refl _, h1⟩
  rw [normL_has] at h3
  obtain ⟨r, hr, h4, _⟩ := hasL_iff.1 h3
  unfold diffR diffTo at hr
  obtain ⟨x, _, rfl⟩ := List.mem_map.1 hr
  refine ⟨?_, h1, by omega⟩
  have : ((x : Nat) : Int) ≤ q.1 := h4
  omega
theorem wf_small {n : Int} (h : 0 ≤ n ∧ n ≤ 1000000) : (Lit.int .i64 n).wf = true := by
  unfold Lit.wf
  simp [IntKind.min, IntKind.max, IntKind.signed, IntKind.bits]
  omega
theorem hol_step {wr w' : World} {B : Nat} {v v' vl : Value} {rs : List (Int × Int)} (hol : OwnA 74 2 encR wr 0 (fun j => v.ownBlock = some j ∨ j = B) vl rs) (hg : wr.grownBy w' v.ownBlock) (hm : Moved wr v v') :
    OwnA 74 2 encR w' 0 (fun j => v'.ownBlock = some j ∨ j = B) vl rs := by
  have hne : vl.ownBlock = none ∨ vl.ownBlock ≠ v.ownBlock := by
    rcases ho : vl.ownBlock with _ | j
    · exact .inl rfl
    · exact .inr (fun e => hol.2 j ho (.inl e.symm))
  refine (hol.kept hg hne).weak fun j hj hj' => ?_
  rcases hj' with hj' | hj'
  · rcases hm with h | ⟨m, h, hm⟩
    · rw [h] at hj'
      exact hol.2 j hj (.inl hj')
    · rw [h] at hj'
      injection hj' with hj'
      have := (hol.lt hj).2
      omega
  · exact hol.2 j hj (.inr hj')
theorem hol_map {wr w' : World} {B : Nat} {v vl : Value} {rs : List (Int × Int)} (hol : OwnA 74 2 encR wr 0 (fun j => v.ownBlock = some j ∨ j = B) vl rs) (hg : wr.grownBy w' (some B)) :
    OwnA 74 2 encR w' 0 (fun j => v.ownBlock = some j ∨ j = B) vl rs := by
  refine hol.kept hg ?_
  rcases ho : vl.ownBlock with _ | j
  · exact .inl rfl
  · exact .inr (fun e => hol.2 j ho (.inr (by injection e)))
theorem own_ne_base {w : World} {base B : Nat} {v : Value} {xs : List Bx} (h : OwnX w base v xs) (hB : B < base) : v.ownBlock = none ∨ v.ownBlock ≠ some B := by
  rcases ho : v.ownBlock with _ | j
  · exact .inl rfl
  · refine .inr (fun e => ?_)
    injection e with e
    subst e
    have := (World.ownsRow.lt h j ho).1
    omega
theorem cell_kept {w w' : World} {row : Option Nat} (hg : w.grownBy w' row) {p : Addr} (hp : p.block < w.heap.size) (hne : some p.block ≠ row) : w'.cell? p = w.cell? p := World.cell?_of_block (w := w) (hg.block p.block hp hne)
theorem Try.zero3 (w : World) : (zeroValue 3).run Try.prog w = .ok (.int .i64 0) w := by
  obtain ⟨i0, hi, hz0, hz1, hz2⟩ := Mp.info_parts Try.infoI
  simp [zeroValue, typeInfo, hi, hz0]

set_option maxRecDepth 100000 in
set_option maxHeartbeats 8000000 in
theorem proof_boxes (a b : P4) (w : World) (hfa : Few4 a 200) (hfb : Few4 b 200) (hRa : Rd4 w a) (hRb : Rd4 w b) : Calls Try.prog 14 #[agg4 a, agg4 b] w (BoxPost a b w) := by
  have CA := Lib.hid (fun (W : World) (hb : Below w.heap.size w W) => colors_any a W (fun j => Nat.le_trans (hfa j) (by omega)) (hRa.below hb))
  have CB := Lib.hid (fun (W : World) (hb : Below w.heap.size w W) => colors_any b W (fun j => Nat.le_trans (hfb j) (by omega)) (hRb.below hb))
  unfold agg4
  have k0 : Below w.heap.size w ((w.alloc (.cells #[.int .i64 a.p0.w, .int .i64 a.p0.h, .slice a.p0.a a.p0.v.length a.p0.c, .int .i64 a.p1.w, .int .i64 a.p1.h, .slice a.p1.a a.p1.v.length a.p1.c, .int .i64 a.p2.w, .int .i64 a.p2.h, .slice a.p2.a a.p2.v.length a.p2.c, .int .i64 a.p3.w, .int .i64 a.p3.h, .slice a.p3.a a.p3.v.length a.p3.c] 25)).alloc (.cells #[.int .i64 b.p0.w, .int .i64 b.p0.h, .slice b.p0.a b.p0.v.length b.p0.c, .int .i64 b.p1.w, .int .i64 b.p1.h, .slice b.p1.a b.p1.v.length b.p1.c, .int .i64 b.p2.w, .int .i64 b.p2.h, .slice b.p2.a b.p2.v.length b.p2.c, .int .i64 b.p3.w, .int .i64 b.p3.h, .slice b.p3.a b.p3.v.length b.p3.c] 25)) := (bw1 _ _).alloc (by simp) _
  have hs0 : ((w.alloc (.cells #[.int .i64 a.p0.w, .int .i64 a.p0.h, .slice a.p0.a a.p0.v.length a.p0.c, .int .i64 a.p1.w, .int .i64 a.p1.h, .slice a.p1.a a.p1.v.length a.p1.c, .int .i64 a.p2.w, .int .i64 a.p2.h, .slice a.p2.a a.p2.v.length a.p2.c, .int .i64 a.p3.w, .int .i64 a.p3.h, .slice a.p3.a a.p3.v.length a.p3.c] 25)).alloc (.cells #[.int .i64 b.p0.w, .int .i64 b.p0.h, .slice b.p0.a b.p0.v.length b.p0.c, .int .i64 b.p1.w, .int .i64 b.p1.h, .slice b.p1.a b.p1.v.length b.p1.c, .int .i64 b.p2.w, .int .i64 b.p2.h, .slice b.p2.a b.p2.v.length b.p2.c, .int .i64 b.p3.w, .int .i64 b.p3.h, .slice b.p3.a b.p3.v.length b.p3.c] 25)).heap.size = w.heap.size + 2 := by simp
  have hca : ((w.alloc (.cells #[.int .i64 a.p0.w, .int .i64 a.p0.h, .slice a.p0.a a.p0.v.length a.p0.c, .int .i64 a.p1.w, .int .i64 a.p1.h, .slice a.p1.a a.p1.v.length a.p1.c, .int .i64 a.p2.w, .int .i64 a.p2.h, .slice a.p2.a a.p2.v.length a.p2.c, .int .i64 a.p3.w, .int .i64 a.p3.h, .slice a.p3.a a.p3.v.length a.p3.c] 25)).alloc (.cells #[.int .i64 b.p0.w, .int .i64 b.p0.h, .slice b.p0.a b.p0.v.length b.p0.c, .int .i64 b.p1.w, .int .i64 b.p1.h, .slice b.p1.a b.p1.v.length b.p1.c, .int .i64 b.p2.w, .int .i64 b.p2.h, .slice b.p2.a b.p2.v.length b.p2.c, .int .i64 b.p3.w, .int .i64 b.p3.h, .slice b.p3.a b.p3.v.length b.p3.c] 25)).cell? ⟨w.heap.size, 0, none⟩ = some (.int .i64 a.p0.w) ∧ ((w.alloc (.cells #[.int .i64 a.p0.w, .int .i64 a.p0.h, .slice a.p0.a a.p0.v.length a.p0.c, .int .i64 a.p1.w, .int .i64 a.p1.h, .slice a.p1.a a.p1.v.length a.p1.c, .int .i64 a.p2.w, .int .i64 a.p2.h, .slice a.p2.a a.p2.v.length a.p2.c, .int .i64 a.p3.w, .int .i64 a.p3.h, .slice a.p3.a a.p3.v.length a.p3.c] 25)).alloc (.cells #[.int .i64 b.p0.w, .int .i64 b.p0.h, .slice b.p0.a b.p0.v.length b.p0.c, .int .i64 b.p1.w, .int .i64 b.p1.h, .slice b.p1.a b.p1.v.length b.p1.c, .int .i64 b.p2.w, .int .i64 b.p2.h, .slice b.p2.a b.p2.v.length b.p2.c, .int .i64 b.p3.w, .int .i64 b.p3.h, .slice b.p3.a b.p3.v.length b.p3.c] 25)).cell? ⟨w.heap.size, 1, none⟩ = some (.int .i64 a.p0.h) ∧ ((w.alloc (.cells #[.int .i64 a.p0.w, .int .i64 a.p0.h, .slice a.p0.a a.p0.v.length a.p0.c, .int .i64 a.p1.w, .int .i64 a.p1.h, .slice a.p1.a a.p1.v.length a.p1.c, .int .i64 a.p2.w, .int .i64 a.p2.h, .slice a.p2.a a.p2.v.length a.p2.c, .int .i64 a.p3.w, .int .i64 a.p3.h, .slice a.p3.a a.p3.v.length a.p3.c] 25)).alloc (.cells #[.int .i64 b.p0.w, .int .i64 b.p0.h, .slice b.p0.a b.p0.v.length b.p0.c, .int .i64 b.p1.w, .int .i64 b.p1.h, .slice b.p1.a b.p1.v.length b.p1.c, .int .i64 b.p2.w, .int .i64 b.p2.h, .slice b.p2.a b.p2.v.length b.p2.c, .int .i64 b.p3.w, .int .i64 b.p3.h, .slice b.p3.a b.p3.v.length b.p3.c] 25)).cell? ⟨w.heap.size, 2, none⟩ = some (.slice a.p0.a a.p0.v.length a.p0.c) ∧ ((w.alloc (.cells #[.int .i64 a.p0.w, .int .i64 a.p0.h, .slice a.p0.a a.p0.v.length a.p0.c, .int .i64 a.p1.w, .int .i64 a.p1.h, .slice a.p1.a a.p1.v.length a.p1.c, .int .i64 a.p2.w, .int .i64 a.p2.h, .slice a.p2.a a.p2.v.length a.p2.c, .int .i64 a.p3.w, .int .i64 a.p3.h, .slice a.p3.a a.p3.v.length a.p3.c] 25)).alloc (.cells #[.int .i64 b.p0.w, .int .i64 b.p0.h, .slice b.p0.a b.p0.v.length b.p0.c, .int .i64 b.p1.w, .int .i64 b.p1.h, .slice b.p1.a b.p1.v.length b.p1.c, .int .i64 b.p2.w, .int .i64 b.p2.h, .slice b.p2.a b.p2.v.length b.p2.c, .int .i64 b.p3.w, .int .i64 b.p3.h, .slice b.p3.a b.p3.v.length b.p3.c] 25)).cell? ⟨w.heap.size, 3, none⟩ = some (.int .i64 a.p1.w) ∧ ((w.alloc (.cells #[.int .i64 a.p0.w, .int .i64 a.p0.h, .slice a.p0.a a.p0.v.length a.p0.c, .int .i64 a.p1.w, .int .i64 a.p1.h, .slice a.p1.a a.p1.v.length a.p1.c, .int .i64 a.p2.w, .int .i64 a.p2.h, .slice a.p2.a a.p2.v.length a.p2.c, .int .i64 a.p3.w, .int .i64 a.p3.h, .slice a.p3.a a.p3.v.length a.p3.c] 25)).alloc (.cells #[.int .i64 b.p0.w, .int .i64 b.p0.h, .slice b.p0.a b.p0.v.length b.p0.c, .int .i64 b.p1.w, .int .i64 b.p1.h, .slice b.p1.a b.p1.v.length b.p1.c, .int .i64 b.p2.w, .int .i64 b.p2.h, .slice b.p2.a b.p2.v.length b.p2.c, .int .i64 b.p3.w, .int .i64 b.p3.h, .slice b.p3.a b.p3.v.length b.p3.c] 25)).cell? ⟨w.heap.size, 4, none⟩ = some (.int .i64 a.p1.h) ∧ ((w.alloc (.cells #[.int .i64 a.p0.w, .int .i64 a.p0.h, .slice a.p0.a a.p0.v.length a.p0.c, .int .i64 a.p1.w, .int .i64 a.p1.h, .slice a.p1.a a.p1.v.length a.p1.c, .int .i64 a.p2.w, .int .i64 a.p2.h, .slice a.p2.a a.p2.v.length a.p2.c, .int .i64 a.p3.w, .int .i64 a.p3.h, .slice a.p3.a a.p3.v.length a.p3.c] 25)).alloc (.cells #[.int .i64 b.p0.w, .int .i64 b.p0.h, .slice b.p0.a b.p0.v.length b.p0.c, .int .i64 b.p1.w, .int .i64 b.p1.h, .slice b.p1.a b.p1.v.length b.p1.c, .int .i64 b.p2.w, .int .i64 b.p2.h, .slice b.p2.a b.p2.v.length b.p2.c, .int .i64 b.p3.w, .int .i64 b.p3.h, .slice b.p3.a b.p3.v.length b.p3.c] 25)).cell? ⟨w.heap.size, 5, none⟩ = some (.slice a.p1.a a.p1.v.length a.p1.c) ∧ ((w.alloc (.cells #[.int .i64 a.p0.w, .int .i64 a.p0.h, .slice a.p0.a a.p0.v.length a.p0.c, .int .i64 a.p1.w, .int .i64 a.p1.h, .slice a.p1.a a.p1.v.length a.p1.c, .int .i64 a.p2.w, .int .i64 a.p2.h, .slice a.p2.a a.p2.v.length a.p2.c, .int .i64 a.p3.w, .int .i64 a.p3.h, .slice a.p3.a a.p3.v.length a.p3.c] 25)).alloc (.cells #[.int .i64 b.p0.w, .int .i64 b.p0.h, .slice b.p0.a b.p0.v.length b.p0.c, .int .i64 b.p1.w, .int .i64 b.p1.h, .slice b.p1.a b.p1.v.length b.p1.c, .int .i64 b.p2.w, .int .i64 b.p2.h, .slice b.p2.a b.p2.v.length b.p2.c, .int .i64 b.p3.w, .int .i64 b.p3.h, .slice b.p3.a b.p3.v.length b.p3.c] 25)).cell? ⟨w.heap.size, 6, none⟩ = some (.int .i64 a.p2.w) ∧ ((w.alloc (.cells #[.int .i64 a.p0.w, .int .i64 a.p0.h, .slice a.p0.a a.p0.v.length a.p0.c, .int .i64 a.p1.w, .int .i64 a.p1.h, .slice a.p1.a a.p1.v.length a.p1.c, .int .i64 a.p2.w, .int .i64 a.p2.h, .slice a.p2.a a.p2.v.length a.p2.c, .int .i64 a.p3.w, .int .i64 a.p3.h, .slice a.p3.a a.p3.v.length a.p3.c] 25)).alloc (.cells #[.int .i64 b.p0.w, .int .i64 b.p0.h, .slice b.p0.a b.p0.v.length b.p0.c, .int .i64 b.p1.w, .int .i64 b.p1.h, .slice b.p1.a b.p1.v.length b.p1.c, .int .i64 b.p2.w, .int .i64 b.p2.h, .slice b.p2.a b.p2.v.length b.p2.c, .int .i64 b.p3.w, .int .i64 b.p3.h, .slice b.p3.a b.p3.v.length b.p3.c] 25)).cell? ⟨w.heap.size, 7, none⟩ = some (.int .i64 a.p2.h) ∧ ((w.alloc (.cells #[.int .i64 a.p0.w, .int .i64 a.p0.h, .slice a.p0.a a.p0.v.length a.p0.c, .int .i64 a.p1.w, .int .i64 a.p1.h, .slice a.p1.a a.p1.v.length a.p1.c, .int .i64 a.p2.w, .int .i64 a.p2.h, .slice a.p2.a a.p2.v.length a.p2.c, .int .i64 a.p3.w, .int .i64 a.p3.h, .slice a.p3.a a.p3.v.length a.p3.c] 25)).alloc (.cells #[.int .i64 b.p0.w, .int .i64 b.p0.h, .slice b.p0.a b.p0.v.length b.p0.c, .int .i64 b.p1.w, .int .i64 b.p1.h, .slice b.p1.a b.p1.v.length b.p1.c, .int .i64 b.p2.w, .int .i64 b.p2.h, .slice b.p2.a b.p2.v.length b.p2.c, .int .i64 b.p3.w, .int .i64 b.p3.h, .slice b.p3.a b.p3.v.length b.p3.c] 25)).cell? ⟨w.heap.size, 8, none⟩ = some (.slice a.p2.a a.p2.v.length a.p2.c) ∧ ((w.alloc (.cells #[.int .i64 a.p0.w, .int .i64 a.p0.h, .slice a.p0.a a.p0.v.length a.p0.c, .int .i64 a.p1.w, .int .i64 a.p1.h, .slice a.p1.a a.p1.v.length a.p1.c, .int .i64 a.p2.w, .int .i64 a.p2.h, .slice a.p2.a a.p2.v.length a.p2.c, .int .i64 a.p3.w, .int .i64 a.p3.h, .slice a.p3.a a.p3.v.length a.p3.c] 25)).alloc (.cells #[.int .i64 b.p0.w, .int .i64 b.p0.h, .slice b.p0.a b.p0.v.length b.p0.c, .int .i64 b.p1.w, .int .i64 b.p1.h, .slice b.p1.a b.p1.v.length b.p1.c, .int .i64 b.p2.w, .int .i64 b.p2.h, .slice b.p2.a b.p2.v.length b.p2.c, .int .i64 b.p3.w, .int .i64 b.p3.h, .slice b.p3.a b.p3.v.length b.p3.c] 25)).cell? ⟨w.heap.size, 9, none⟩ = some (.int .i64 a.p3.w) ∧ ((w.alloc (.cells #[.int .i64 a.p0.w, .int .i64 a.p0.h, .slice a.p0.a a.p0.v.length a.p0.c, .int .i64 a.p1.w, .int .i64 a.p1.h, .slice a.p1.a a.p1.v.length a.p1.c, .int .i64 a.p2.w, .int .i64 a.p2.h, .slice a.p2.a a.p2.v.length a.p2.c, .int .i64 a.p3.w, .int .i64 a.p3.h, .slice a.p3.a a.p3.v.length a.p3.c] 25)).alloc (.cells #[.int .i64 b.p0.w, .int .i64 b.p0.h, .slice b.p0.a b.p0.v.length b.p0.c, .int .i64 b.p1.w, .int .i64 b.p1.h, .slice b.p1.a b.p1.v.length b.p1.c, .int .i64 b.p2.w, .int .i64 b.p2.h, .slice b.p2.a b.p2.v.length b.p2.c, .int .i64 b.p3.w, .int .i64 b.p3.h, .slice b.p3.a b.p3.v.length b.p3.c] 25)).cell? ⟨w.heap.size, 10, none⟩ = some (.int .i64 a.p3.h) ∧ ((w.alloc (.cells #[.int .i64 a.p0.w, .int .i64 a.p0.h, .slice a.p0.a a.p0.v.length a.p0.c, .int .i64 a.p1.w, .int .i64 a.p1.h, .slice a.p1.a a.p1.v.length a.p1.c, .int .i64 a.p2.w, .int .i64 a.p2.h, .slice a.p2.a a.p2.v.length a.p2.c, .int .i64 a.p3.w, .int .i64 a.p3.h, .slice a.p3.a a.p3.v.length a.p3.c] 25)).alloc (.cells #[.int .i64 b.p0.w, .int .i64 b.p0.h, .slice b.p0.a b.p0.v.length b.p0.c, .int .i64 b.p1.w, .int .i64 b.p1.h, .slice b.p1.a b.p1.v.length b.p1.c, .int .i64 b.p2.w, .int .i64 b.p2.h, .slice b.p2.a b.p2.v.length b.p2.c, .int .i64 b.p3.w, .int .i64 b.p3.h, .slice b.p3.a b.p3.v.length b.p3.c] 25)).cell? ⟨w.heap.size, 11, none⟩ = some (.slice a.p3.a a.p3.v.length a.p3.c) := by
    refine ⟨?_, ?_, ?_, ?_, ?_, ?_, ?_, ?_, ?_, ?_, ?_, ?_⟩ <;> simp
  have hcb : ((w.alloc (.cells #[.int .i64 a.p0.w, .int .i64 a.p0.h, .slice a.p0.a a.p0.v.length a.p0.c, .int .i64 a.p1.w, .int .i64 a.p1.h, .slice a.p1.a a.p1.v.length a.p1.c, .int .i64 a.p2.w, .int .i64 a.p2.h, .slice a.p2.a a.p2.v.length a.p2.c, .int .i64 a.p3.w, .int .i64 a.p3.h, .slice a.p3.a a.p3.v.length a.p3.c] 25)).alloc (.cells #[.int .i64 b.p0.w, .int .i64 b.p0.h, .slice b.p0.a b.p0.v.length b.p0.c, .int .i64 b.p1.w, .int .i64 b.p1.h, .slice b.p1.a b.p1.v.length b.p1.c, .int .i64 b.p2.w, .int .i64 b.p2.h, .slice b.p2.a b.p2.v.length b.p2.c, .int .i64 b.p3.w, .int .i64 b.p3.h, .slice b.p3.a b.p3.v.length b.p3.c] 25)).cell? ⟨w.heap.size + 1, 0, none⟩ = some (.int .i64 b.p0.w) ∧ ((w.alloc (.cells #[.int .i64 a.p0.w, .int .i64 a.p0.h, .slice a.p0.a a.p0.v.length a.p0.c, .int .i64 a.p1.w, .int .i64 a.p1.h, .slice a.p1.a a.p1.v.length a.p1.c, .int .i64 a.p2.w, .int .i64 a.p2.h, .slice a.p2.a a.p2.v.length a.p2.c, .int .i64 a.p3.w, .int .i64 a.p3.h, .slice a.p3.a a.p3.v.length a.p3.c] 25)).alloc (.cells #[.int .i64 b.p0.w, .int .i64 b.p0.h, .slice b.p0.a b.p0.v.length b.p0.c, .int .i64 b.p1.w, .int .i64 b.p1.h, .slice b.p1.a b.p1.v.length b.p1.c, .int .i64 b.p2.w, .int .i64 b.p2.h, .slice b.p2.a b.p2.v.length b.p2.c, .int .i64 b.p3.w, .int .i64 b.p3.h, .slice b.p3.a b.p3.v.length b.p3.c] 25)).cell? ⟨w.heap.size + 1, 1, none⟩ = some (.int .i64 b.p0.h) ∧ ((w.alloc (.cells #[.int .i64 a.p0.w, .int .i64 a.p0.h, .slice a.p0.a a.p0.v.length a.p0.c, .int .i64 a.p1.w, .int .i64 a.p1.h, .slice a.p1.a a.p1.v.length a.p1.c, .int .i64 a.p2.w, .int .i64 a.p2.h, .slice a.p2.a a.p2.v.length a.p2.c, .int .i64 a.p3.w, .int .i64 a.p3.h, .slice a.p3.a a.p3.v.length a.p3.c] 25)).alloc (.cells #[.int .i64 b.p0.w, .int .i64 b.p0.h, .slice b.p0.a b.p0.v.length b.p0.c, .int .i64 b.p1.w, .int .i64 b.p1.h, .slice b.p1.a b.p1.v.length b.p1.c, .int .i64 b.p2.w, .int .i64 b.p2.h, .slice b.p2.a b.p2.v.length b.p2.c, .int .i64 b.p3.w, .int .i64 b.p3.h, .slice b.p3.a b.p3.v.length b.p3.c] 25)).cell? ⟨w.heap.size + 1, 2, none⟩ = some (.slice b.p0.a b.p0.v.length b.p0.c) ∧ ((w.alloc (.cells #[.int .i64 a.p0.w, .int .i64 a.p0.h, .slice a.p0.a a.p0.v.length a.p0.c, .int .i64 a.p1.w, .int .i64 a.p1.h, .slice a.p1.a a.p1.v.length a.p1.c, .int .i64 a.p2.w, .int .i64 a.p2.h, .slice a.p2.a a.p2.v.length a.p2.c, .int .i64 a.p3.w, .int .i64 a.p3.h, .slice a.p3.a a.p3.v.length a.p3.c] 25)).alloc (.cells #[.int .i64 b.p0.w, .int .i64 b.p0.h, .slice b.p0.a b.p0.v.length b.p0.c, .int .i64 b.p1.w, .int .i64 b.p1.h, .slice b.p1.a b.p1.v.length b.p1.c, .int .i64 b.p2.w, .int .i64 b.p2.h, .slice b.p2.a b.p2.v.length b.p2.c, .int .i64 b.p3.w, .int .i64 b.p3.h, .slice b.p3.a b.p3.v.length b.p3.c] 25)).cell? ⟨w.heap.size + 1, 3, none⟩ = some (.int .i64 b.p1.w) ∧ ((w.alloc (.cells #[.int .i64 a.p0.w, .int .i64 a.p0.h, .slice a.p0.a a.p0.v.length a.p0.c, .int .i64 a.p1.w, .int .i64 a.p1.h, .slice a.p1.a a.p1.v.length a.p1.c, .int .i64 a.p2.w, .int .i64 a.p2.h, .slice a.p2.a a.p2.v.length a.p2.c, .int .i64 a.p3.w, .int .i64 a.p3.h, .slice a.p3.a a.p3.v.length a.p3.c] 25)).alloc (.cells #[.int .i64 b.p0.w, .int .i64 b.p0.h, .slice b.p0.a b.p0.v.length b.p0.c, .int .i64 b.p1.w, .int .i64 b.p1.h, .slice b.p1.a b.p1.v.length b.p1.c, .int .i64 b.p2.w, .int .i64 b.p2.h, .slice b.p2.a b.p2.v.length b.p2.c, .int .i64 b.p3.w, .int .i64 b.p3.h, .slice b.p3.a b.p3.v.length b.p3.c] 25)).cell? ⟨w.heap.size + 1, 4, none⟩ = some (.int .i64 b.p1.h) ∧ ((w.alloc (.cells #[.int .i64 a.p0.w, .int .i64 a.p0.h, .slice a.p0.a a.p0.v.length a.p0.c, .int .i64 a.p1.w, .int .i64 a.p1.h, .slice a.p1.a a.p1.v.length a.p1.c, .int .i64 a.p2.w, .int .i64 a.p2.h, .slice a.p2.a a.p2.v.length a.p2.c, .int .i64 a.p3.w, .int .i64 a.p3.h, .slice a.p3.a a.p3.v.length a.p3.c] 25)).alloc (.cells #[.int .i64 b.p0.w, .int .i64 b.p0.h, .slice b.p0.a b.p0.v.length b.p0.c, .int .i64 b.p1.w, .int .i64 b.p1.h, .slice b.p1.a b.p1.v.length b.p1.c, .int .i64 b.p2.w, .int .i64 b.p2.h, .slice b.p2.a b.p2.v.length b.p2.c, .int .i64 b.p3.w, .int .i64 b.p3.h, .slice b.p3.a b.p3.v.length b.p3.c] 25)).cell? ⟨w.heap.size + 1, 5, none⟩ = some (.slice b.p1.a b.p1.v.length b.p1.c) ∧ ((w.alloc (.cells #[.int .i64 a.p0.w, .int .i64 a.p0.h, .slice a.p0.a a.p0.v.length a.p0.c, .int .i64 a.p1.w, .int .i64 a.p1.h, .slice a.p1.a a.p1.v.length a.p1.c, .int .i64 a.p2.w, .int .i64 a.p2.h, .slice a.p2.a a.p2.v.length a.p2.c, .int .i64 a.p3.w, .int .i64 a.p3.h, .slice a.p3.a a.p3.v.length a.p3.c] 25)).alloc (.cells #[.int .i64 b.p0.w, .int .i64 b.p0.h, .slice b.p0.a b.p0.v.length b.p0.c, .int .i64 b.p1.w, .int .i64 b.p1.h, .slice b.p1.a b.p1.v.length b.p1.c, .int .i64 b.p2.w, .int .i64 b.p2.h, .slice b.p2.a b.p2.v.length b.p2.c, .int .i64 b.p3.w, .int .i64 b.p3.h, .slice b.p3.a b.p3.v.length b.p3.c] 25)).cell? ⟨w.heap.size + 1, 6, none⟩ = some (.int .i64 b.p2.w) ∧ ((w.alloc (.cells #[.int .i64 a.p0.w, .int .i64 a.p0.h, .slice a.p0.a a.p0.v.length a.p0.c, .int .i64 a.p1.w, .int .i64 a.p1.h, .slice a.p1.a a.p1.v.length a.p1.c, .int .i64 a.p2.w, .int .i64 a.p2.h, .slice a.p2.a a.p2.v.length a.p2.c, .int .i64 a.p3.w, .int .i64 a.p3.h, .slice a.p3.a a.p3.v.length a.p3.c] 25)).alloc (.cells #[.int .i64 b.p0.w, .int .i64 b.p0.h, .slice b.p0.a b.p0.v.length b.p0.c, .int .i64 b.p1.w, .int .i64 b.p1.h, .slice b.p1.a b.p1.v.length b.p1.c, .int .i64 b.p2.w, .int .i64 b.p2.h, .slice b.p2.a b.p2.v.length b.p2.c, .int .i64 b.p3.w, .int .i64 b.p3.h, .slice b.p3.a b.p3.v.length b.p3.c] 25)).cell? ⟨w.heap.size + 1, 7, none⟩ = some (.int .i64 b.p2.h) ∧ ((w.alloc (.cells #[.int .i64 a.p0.w, .int .i64 a.p0.h, .slice a.p0.a a.p0.v.length a.p0.c, .int .i64 a.p1.w, .int .i64 a.p1.h, .slice a.p1.a a.p1.v.length a.p1.c, .int .i64 a.p2.w, .int .i64 a.p2.h, .slice a.p2.a a.p2.v.length a.p2.c, .int .i64 a.p3.w, .int .i64 a.p3.h, .slice a.p3.a a.p3.v.length a.p3.c] 25)).alloc (.cells #[.int .i64 b.p0.w, .int .i64 b.p0.h, .slice b.p0.a b.p0.v.length b.p0.c, .int .i64 b.p1.w, .int .i64 b.p1.h, .slice b.p1.a b.p1.v.length b.p1.c, .int .i64 b.p2.w, .int .i64 b.p2.h, .slice b.p2.a b.p2.v.length b.p2.c, .int .i64 b.p3.w, .int .i64 b.p3.h, .slice b.p3.a b.p3.v.length b.p3.c] 25)).cell? ⟨w.heap.size + 1, 8, none⟩ = some (.slice b.p2.a b.p2.v.length b.p2.c) ∧ ((w.alloc (.cells #[.int .i64 a.p0.w, .int .i64 a.p0.h, .slice a.p0.a a.p0.v.length a.p0.c, .int .i64 a.p1.w, .int .i64 a.p1.h, .slice a.p1.a a.p1.v.length a.p1.c, .int .i64 a.p2.w, .int .i64 a.p2.h, .slice a.p2.a a.p2.v.length a.p2.c, .int .i64 a.p3.w, .int .i64 a.p3.h, .slice a.p3.a a.p3.v.length a.p3.c] 25)).alloc (.cells #[.int .i64 b.p0.w, .int .i64 b.p0.h, .slice b.p0.a b.p0.v.length b.p0.c, .int .i64 b.p1.w, .int .i64 b.p1.h, .slice b.p1.a b.p1.v.length b.p1.c, .int .i64 b.p2.w, .int .i64 b.p2.h, .slice b.p2.a b.p2.v.length b.p2.c, .int .i64 b.p3.w, .int .i64 b.p3.h, .slice b.p3.a b.p3.v.length b.p3.c] 25)).cell? ⟨w.heap.size + 1, 9, none⟩ = some (.int .i64 b.p3.w) ∧ ((w.alloc (.cells #[.int .i64 a.p0.w, .int .i64 a.p0.h, .slice a.p0.a a.p0.v.length a.p0.c, .int .i64 a.p1.w, .int .i64 a.p1.h, .slice a.p1.a a.p1.v.length a.p1.c, .int .i64 a.p2.w, .int .i64 a.p2.h, .slice a.p2.a a.p2.v.length a.p2.c, .int .i64 a.p3.w, .int .i64 a.p3.h, .slice a.p3.a a.p3.v.length a.p3.c] 25)).alloc (.cells #[.int .i64 b.p0.w, .int .i64 b.p0.h, .slice b.p0.a b.p0.v.length b.p0.c, .int .i64 b.p1.w, .int .i64 b.p1.h, .slice b.p1.a b.p1.v.length b.p1.c, .int .i64 b.p2.w, .int .i64 b.p2.h, .slice b.p2.a b.p2.v.length b.p2.c, .int .i64 b.p3.w, .int .i64 b.p3.h, .slice b.p3.a b.p3.v.length b.p3.c] 25)).cell? ⟨w.heap.size + 1, 10, none⟩ = some (.int .i64 b.p3.h) ∧ ((w.alloc (.cells #[.int .i64 a.p0.w, .int .i64 a.p0.h, .slice a.p0.a a.p0.v.length a.p0.c, .int .i64 a.p1.w, .int .i64 a.p1.h, .slice a.p1.a a.p1.v.length a.p1.c, .int .i64 a.p2.w, .int .i64 a.p2.h, .slice a.p2.a a.p2.v.length a.p2.c, .int .i64 a.p3.w, .int .i64 a.p3.h, .slice a.p3.a a.p3.v.length a.p3.c] 25)).alloc (.cells #[.int .i64 b.p0.w, .int .i64 b.p0.h, .slice b.p0.a b.p0.v.length b.p0.c, .int .i64 b.p1.w, .int .i64 b.p1.h, .slice b.p1.a b.p1.v.length b.p1.c, .int .i64 b.p2.w, .int .i64 b.p2.h, .slice b.p2.a b.p2.v.length b.p2.c, .int .i64 b.p3.w, .int .i64 b.p3.h, .slice b.p3.a b.p3.v.length b.p3.c] 25)).cell? ⟨w.heap.size + 1, 11, none⟩ = some (.slice b.p3.a b.p3.v.length b.p3.c) := by
    refine ⟨?_, ?_, ?_, ?_, ?_, ?_, ?_, ?_, ?_, ?_, ?_, ?_⟩ <;> simp
  go_enter Try.func14, Try.ntmps14
  go_wp2_with fail
  generalize ((w.alloc (.cells #[.int .i64 a.p0.w, .int .i64 a.p0.h, .slice a.p0.a a.p0.v.length a.p0.c, .int .i64 a.p1.w, .int .i64 a.p1.h, .slice a.p1.a a.p1.v.length a.p1.c, .int .i64 a.p2.w, .int .i64 a.p2.h, .slice a.p2.a a.p2.v.length a.p2.c, .int .i64 a.p3.w, .int .i64 a.p3.h, .slice a.p3.a a.p3.v.length a.p3.c] 25)).alloc (.cells #[.int .i64 b.p0.w, .int .i64 b.p0.h, .slice b.p0.a b.p0.v.length b.p0.c, .int .i64 b.p1.w, .int .i64 b.p1.h, .slice b.p1.a b.p1.v.length b.p1.c, .int .i64 b.p2.w, .int .i64 b.p2.h, .slice b.p2.a b.p2.v.length b.p2.c, .int .i64 b.p3.w, .int .i64 b.p3.h, .slice b.p3.a b.p3.v.length b.p3.c] 25)) = w0 at *
  have HA : Hid (∀ W, Below w0.heap.size w0 W → W.cell? ⟨w.heap.size, 0, none⟩ = some (.int .i64 a.p0.w) ∧ W.cell? ⟨w.heap.size, 1, none⟩ = some (.int .i64 a.p0.h) ∧ W.cell? ⟨w.heap.size, 2, none⟩ = some (.slice a.p0.a a.p0.v.length a.p0.c) ∧ W.cell? ⟨w.heap.size, 3, none⟩ = some (.int .i64 a.p1.w) ∧ W.cell? ⟨w.heap.size, 4, none⟩ = some (.int .i64 a.p1.h) ∧ W.cell? ⟨w.heap.size, 5, none⟩ = some (.slice a.p1.a a.p1.v.length a.p1.c) ∧ W.cell? ⟨w.heap.size, 6, none⟩ = some (.int .i64 a.p2.w) ∧ W.cell? ⟨w.heap.size, 7, none⟩ = some (.int .i64 a.p2.h) ∧ W.cell? ⟨w.heap.size, 8, none⟩ = some (.slice a.p2.a a.p2.v.length a.p2.c) ∧ W.cell? ⟨w.heap.size, 9, none⟩ = some (.int .i64 a.p3.w) ∧ W.cell? ⟨w.heap.size, 10, none⟩ = some (.int .i64 a.p3.h) ∧ W.cell? ⟨w.heap.size, 11, none⟩ = some (.slice a.p3.a a.p3.v.length a.p3.c)) := Lib.hid (fun W hb => by
    obtain ⟨c0, c1, c2, c3, c4, c5, c6, c7, c8, c9, c10, c11⟩ := hca
    have hlt : w.heap.size < w0.heap.size := by omega
    exact ⟨(hb.cell (p := ⟨w.heap.size, 0, none⟩) hlt).trans c0, (hb.cell (p := ⟨w.heap.size, 1, none⟩) hlt).trans c1, (hb.cell (p := ⟨w.heap.size, 2, none⟩) hlt).trans c2, (hb.cell (p := ⟨w.heap.size, 3, none⟩) hlt).trans c3, (hb.cell (p := ⟨w.heap.size, 4, none⟩) hlt).trans c4, (hb.cell (p := ⟨w.heap.size, 5, none⟩) hlt).trans c5, (hb.cell (p := ⟨w.heap.size, 6, none⟩) hlt).trans c6, (hb.cell (p := ⟨w.heap.size, 7, none⟩) hlt).trans c7, (hb.cell (p := ⟨w.heap.size, 8, none⟩) hlt).trans c8, (hb.cell (p := ⟨w.heap.size, 9, none⟩) hlt).trans c9, (hb.cell (p := ⟨w.heap.size, 10, none⟩) hlt).trans c10, (hb.cell (p := ⟨w.heap.size, 11, none⟩) hlt).trans c11⟩)
  have HB : Hid (∀ W, Below w0.heap.size w0 W → W.cell? ⟨w.heap.size + 1, 0, none⟩ = some (.int .i64 b.p0.w) ∧ W.cell? ⟨w.heap.size + 1, 1, none⟩ = some (.int .i64 b.p0.h) ∧ W.cell? ⟨w.heap.size + 1, 2, none⟩ = some (.slice b.p0.a b.p0.v.length b.p0.c) ∧ W.cell? ⟨w.heap.size + 1, 3, none⟩ = some (.int .i64 b.p1.w) ∧ W.cell? ⟨w.heap.size + 1, 4, none⟩ = some (.int .i64 b.p1.h) ∧ W.cell? ⟨w.heap.size + 1, 5, none⟩ = some (.slice b.p1.a b.p1.v.length b.p1.c) ∧ W.cell? ⟨w.heap.size + 1, 6, none⟩ = some (.int .i64 b.p2.w) ∧ W.cell? ⟨w.heap.size + 1, 7, none⟩ = some (.int .i64 b.p2.h) ∧ W.cell? ⟨w.heap.size + 1, 8, none⟩ = some (.slice b.p2.a b.p2.v.length b.p2.c) ∧ W.cell? ⟨w.heap.size + 1, 9, none⟩ = some (.int .i64 b.p3.w) ∧ W.cell? ⟨w.heap.size + 1, 10, none⟩ = some (.int .i64 b.p3.h) ∧ W.cell? ⟨w.heap.size + 1, 11, none⟩ = some (.slice b.p3.a b.p3.v.length b.p3.c)) := Lib.hid (fun W hb => by
    obtain ⟨c0, c1, c2, c3, c4, c5, c6, c7, c8, c9, c10, c11⟩ := hcb
    have hlt : w.heap.size + 1 < w0.heap.size := by omega
    exact ⟨(hb.cell (p := ⟨w.heap.size + 1, 0, none⟩) hlt).trans c0, (hb.cell (p := ⟨w.heap.size + 1, 1, none⟩) hlt).trans c1, (hb.cell (p := ⟨w.heap.size + 1, 2, none⟩) hlt).trans c2, (hb.cell (p := ⟨w.heap.size + 1, 3, none⟩) hlt).trans c3, (hb.cell (p := ⟨w.heap.size + 1, 4, none⟩) hlt).trans c4, (hb.cell (p := ⟨w.heap.size + 1, 5, none⟩) hlt).trans c5, (hb.cell (p := ⟨w.heap.size + 1, 6, none⟩) hlt).trans c6, (hb.cell (p := ⟨w.heap.size + 1, 7, none⟩) hlt).trans c7, (hb.cell (p := ⟨w.heap.size + 1, 8, none⟩) hlt).trans c8, (hb.cell (p := ⟨w.heap.size + 1, 9, none⟩) hlt).trans c9, (hb.cell (p := ⟨w.heap.size + 1, 10, none⟩) hlt).trans c10, (hb.cell (p := ⟨w.heap.size + 1, 11, none⟩) hlt).trans c11⟩)
  clear hca hcb
  refine (CA.out w0 k0).mono ?_
  rintro e w1 ⟨va, rfl, hSa, hb1⟩
  have kw1 := k0.trans (hb1.mono k0.size)
  by_cases ha : colE a = 0
  rotate_left
  · obtain ⟨r, hr⟩ : ∃ r, colE a = r := ⟨_, rfl⟩
    rw [hr] at ha ⊢
    have HR := Lib.hid hr
    clear hr hSa
    have hrb : (r != 0) = true := by simp [ha]
    clear hb1
    go_wp2
    go_ret2
    exact boxPost_err (bxE_a HR.out ha) ha kw1
  have hSa' := hSa
  rw [show colR a = colL a from by unfold colR; rw [if_pos ha]] at hSa'
  rw [ha]
  clear hSa
  have HAZ := Lib.hid ha
  clear ha
  obtain ⟨d0, d1, d2, d3, d4, d5, d6, d7, d8, d9, d10, d11⟩ := HB.out w1 hb1
  go_wp2_with fail
  clear d0 d1 d2 d3 d4 d5 d6 d7 d8 d9 d10 d11
  refine (CB.out w1 kw1).mono ?_
  rintro e w2 ⟨vb, rfl, hSb, hb2⟩
  have kw2 := kw1.trans (hb2.mono kw1.size)
  have hb02 := hb1.trans (hb2.mono hb1.size)
  have hSa2 := hSa'.below hb2
  clear hb2 hSa' hb1 kw1
  by_cases hb : colE b = 0
  rotate_left
  · obtain ⟨r, hr⟩ : ∃ r, colE b = r := ⟨_, rfl⟩
    rw [hr] at hb ⊢
    have HR := Lib.hid hr
    clear hr hSb hSa2
    have hrb : (r != 0) = true := by simp [hb]
    go_wp2
    go_ret2
    exact boxPost_err (bxE_b HAZ.out HR.out hb) hb kw2
  have hSb2 := hSb
  rw [show colR b = colL b from by unfold colR; rw [if_pos hb]] at hSb2
  rw [hb]
  clear hSb
  have HBZ := Lib.hid hb
  clear hb
  have HA2 : Hid (∀ W, Below w2.heap.size w2 W → W.cell? ⟨w.heap.size, 0, none⟩ = some (.int .i64 a.p0.w) ∧ W.cell? ⟨w.heap.size, 1, none⟩ = some (.int .i64 a.p0.h) ∧ W.cell? ⟨w.heap.size, 2, none⟩ = some (.slice a.p0.a a.p0.v.length a.p0.c) ∧ W.cell? ⟨w.heap.size, 3, none⟩ = some (.int .i64 a.p1.w) ∧ W.cell? ⟨w.heap.size, 4, none⟩ = some (.int .i64 a.p1.h) ∧ W.cell? ⟨w.heap.size, 5, none⟩ = some (.slice a.p1.a a.p1.v.length a.p1.c) ∧ W.cell? ⟨w.heap.size, 6, none⟩ = some (.int .i64 a.p2.w) ∧ W.cell? ⟨w.heap.size, 7, none⟩ = some (.int .i64 a.p2.h) ∧ W.cell? ⟨w.heap.size, 8, none⟩ = some (.slice a.p2.a a.p2.v.length a.p2.c) ∧ W.cell? ⟨w.heap.size, 9, none⟩ = some (.int .i64 a.p3.w) ∧ W.cell? ⟨w.heap.size, 10, none⟩ = some (.int .i64 a.p3.h) ∧ W.cell? ⟨w.heap.size, 11, none⟩ = some (.slice a.p3.a a.p3.v.length a.p3.c)) := Lib.hid (fun W hb => HA.out W (hb02.trans (hb.mono hb02.size)))
  have HB2 : Hid (∀ W, Below w2.heap.size w2 W → W.cell? ⟨w.heap.size + 1, 0, none⟩ = some (.int .i64 b.p0.w) ∧ W.cell? ⟨w.heap.size + 1, 1, none⟩ = some (.int .i64 b.p0.h) ∧ W.cell? ⟨w.heap.size + 1, 2, none⟩ = some (.slice b.p0.a b.p0.v.length b.p0.c) ∧ W.cell? ⟨w.heap.size + 1, 3, none⟩ = some (.int .i64 b.p1.w) ∧ W.cell? ⟨w.heap.size + 1, 4, none⟩ = some (.int .i64 b.p1.h) ∧ W.cell? ⟨w.heap.size + 1, 5, none⟩ = some (.slice b.p1.a b.p1.v.length b.p1.c) ∧ W.cell? ⟨w.heap.size + 1, 6, none⟩ = some (.int .i64 b.p2.w) ∧ W.cell? ⟨w.heap.size + 1, 7, none⟩ = some (.int .i64 b.p2.h) ∧ W.cell? ⟨w.heap.size + 1, 8, none⟩ = some (.slice b.p2.a b.p2.v.length b.p2.c) ∧ W.cell? ⟨w.heap.size + 1, 9, none⟩ = some (.int .i64 b.p3.w) ∧ W.cell? ⟨w.heap.size + 1, 10, none⟩ = some (.int .i64 b.p3.h) ∧ W.cell? ⟨w.heap.size + 1, 11, none⟩ = some (.slice b.p3.a b.p3.v.length b.p3.c)) := Lib.hid (fun W hb => HB.out W (hb02.trans (hb.mono hb02.size)))
  by_cases hz : a.p0.w = b.p0.w ∧ a.p0.h = b.p0.h
  rotate_left
  · have hN : ∀ W, (binOp .neq 68 (.agg #[.int .i64 a.p0.w, .int .i64 a.p0.h]) (.agg #[.int .i64 b.p0.w, .int .i64 b.p0.h])).run Try.prog W = .ok (.bool true) W := fun W => by rw [Try.neq68, decide_eq_true (show a.p0.w = b.p0.w → a.p0.h ≠ b.p0.h from fun h1 h2 => hz ⟨h1, h2⟩)]
    have HE := Lib.hid (bxE_s HAZ.out HBZ.out hz)
    clear hz hSa2 hSb2
    go_wp2_with fail
    have hS0 : (fun W : World => Below w2.heap.size w2 W) w2.drew := (Below.refl w2.heap.size w2).drew
    refine wp_region_held_drew (S := (fun W : World => Below w2.heap.size w2 W)) (by kernel_rfl) hS0 (fun hHeld => ?_)
    clear hHeld
    have hG := Try.guard68
    refine wpAnyH_take (i := 0) (oi := ⟨some 31, _, _, _, _, _⟩) (v := ?vn1) rfl (by kernel_rfl) (by kernel_rfl) (by kernel_rfl) (fun _ _ _ h => h) (Or.inl ⟨by kernel_rfl, ?hyn1⟩) (by assumption) ?restn1
    case hyn1 => (intro W hSw; (try dsimp only at hSw); go_simp; try with_reducible rfl)
    case' restn1 => try simp only [Act.put, List.setIfInBounds_toArray, List.set_cons_zero, List.set_cons_succ]
    refine wpAnyH_take (i := 1) (oi := ⟨some 32, _, _, _, _, _⟩) (v := ?vn2) rfl (by kernel_rfl) (by kernel_rfl) (by kernel_rfl) (fun _ _ _ h => h) (Or.inl ⟨by kernel_rfl, ?hyn2⟩) (by assumption) ?restn2
    case hyn2 => (intro W hSw; obtain ⟨c0, c1, c2, _⟩ := HA2.out W hSw; clear hSw; (try dsimp only at hSw); go_simp; try with_reducible rfl)
    case' restn2 => try simp only [Act.put, List.setIfInBounds_toArray, List.set_cons_zero, List.set_cons_succ]
    refine wpAnyH_take (i := 3) (oi := ⟨some 34, _, _, _, _, _⟩) (v := ?vn3) rfl (by kernel_rfl) (by kernel_rfl) (by kernel_rfl) (fun _ _ _ h => h) (Or.inl ⟨by kernel_rfl, ?hyn3⟩) (by assumption) ?restn3
    case hyn3 => (intro W hSw; (try dsimp only at hSw); go_simp; try with_reducible rfl)
    case' restn3 => try simp only [Act.put, List.setIfInBounds_toArray, List.set_cons_zero, List.set_cons_succ]
    refine wpAnyH_take (i := 4) (oi := ⟨some 35, _, _, _, _, _⟩) (v := ?vn4) rfl (by kernel_rfl) (by kernel_rfl) (by kernel_rfl) (fun _ _ _ h => h) (Or.inl ⟨by kernel_rfl, ?hyn4⟩) (by assumption) ?restn4
    case hyn4 => (intro W hSw; obtain ⟨c0, c1, c2, _⟩ := HB2.out W hSw; clear hSw; (try dsimp only at hSw); go_simp; try with_reducible rfl)
    case' restn4 => try simp only [Act.put, List.setIfInBounds_toArray, List.set_cons_zero, List.set_cons_succ]
    refine wpAnyH_ready (rs := [2]) (by kernel_rfl) (by simp) ?_
    refine AllReadyH.cons (o := ⟨some 33, _, _, _, _, _⟩) rfl (fun K hK => ?_) AllReadyH.nil
    go_simp
    go_at_call 27
    refine (size_of a.p0 _).mono ?_
    rintro e Wn1 ⟨rfl, hbWn1⟩
    have hSWn1 := hS0.trans (hbWn1.mono hS0.size)
    try clear hS0
    clear hbWn1
    go_wp2_with fail
    refine hK.out _ _ hSWn1 (fun hHeld => ?_)
    clear hK hHeld K
    try simp only [Act.put, List.setIfInBounds_toArray, List.set_cons_zero, List.set_cons_succ]
    refine wpAnyH_ready (rs := [5]) (by kernel_rfl) (by simp) ?_
    refine AllReadyH.cons (o := ⟨some 36, _, _, _, _, _⟩) rfl (fun K hK => ?_) AllReadyH.nil
    go_simp
    go_at_call 27
    refine (size_of b.p0 _).mono ?_
    rintro e Wn2 ⟨rfl, hbWn2⟩
    have hSWn2 := hSWn1.trans (hbWn2.mono hSWn1.size)
    try clear hSWn1
    clear hbWn2
    go_wp2_with fail
    refine hK.out _ _ hSWn2 (fun hHeld => ?_)
    clear hK hHeld K
    try simp only [Act.put, List.setIfInBounds_toArray, List.set_cons_zero, List.set_cons_succ]
    refine wpAnyH_take (i := 6) (oi := ⟨some 37, _, _, _, _, _⟩) (v := ?vn5) rfl (by kernel_rfl) (by kernel_rfl) (by kernel_rfl) (fun _ _ _ h => h) (Or.inl ⟨by kernel_rfl, ?hyn5⟩) (by assumption) ?restn5
    case hyn5 => (intro W hSw; (try dsimp only at hSw); go_simp; try with_reducible rfl)
    case' restn5 => try simp only [Act.put, List.setIfInBounds_toArray, List.set_cons_zero, List.set_cons_succ]
    refine wpAnyH_done (by kernel_rfl) ?_ _
    have hS9 := hSWn2
    clear hN hG
    have kk := kw2.trans (hS9.mono kw2.size)
    go_wp2
    go_ret2
    exact boxPost_err HE.out (by omega) kk
  have hN : ∀ W, (binOp .neq 68 (.agg #[.int .i64 a.p0.w, .int .i64 a.p0.h]) (.agg #[.int .i64 b.p0.w, .int .i64 b.p0.h])).run Try.prog W = .ok (.bool false) W := fun W => by rw [Try.neq68]; simp [hz.1, hz.2]
  have HE := Lib.hid (bxE_z HAZ.out HBZ.out hz)
  obtain ⟨Wn, Hn, eW, eH, lW, lH, hla⟩ := size_nat HAZ.out
  obtain ⟨Wm, Hm, eW', eH', _, _, hlb⟩ := size_nat HBZ.out
  obtain ⟨hz1, hz2⟩ := hz
  have hW1 : 1 ≤ Wn := by
    have h1 := (chk_zero ((colE_zero HAZ.out).1 0 (by omega))).1
    change 1 ≤ a.p0.w ∧ a.p0.w ≤ 256 at h1
    omega
  have e1 : Wm = Wn := by omega
  have e2 : Hm = Hn := by omega
  subst e1 e2
  have HLA := Lib.hid hla
  have HLB := Lib.hid hlb
  have HEW := Lib.hid eW
  have HEH := Lib.hid eH
  have HRUN : Hid (∀ y, bxRun a b y = rowRuns (rowOf (colL a) (y * Wm) Wm) (rowOf (colL b) (y * Wm) Wm) y Wm) := Lib.hid (fun y => by unfold bxRun; rw [HEW.out]; simp)
  have HTL : Hid (∀ y, (bxTo a b y).length ≤ y * Wm) := Lib.hid (fun y => by have := bxTo_len a b y; rw [HEW.out] at this; simpa using this)
  have HRL : Hid (∀ y, (bxRun a b y).length ≤ Wm) := Lib.hid (fun y => by have := bxRun_len a b y; rw [HEW.out] at this; simpa using this)
  obtain ⟨Aa, ca, rfl, hcapa, hRxa⟩ := hSa2
  obtain ⟨Ab, cb, rfl, hcapb, hRxb⟩ := hSb2
  clear hla hlb eW eH eW' eH' hz1 hz2
  go_wp2_with fail
  have hS0 : (fun W : World => Below w2.heap.size w2 W) w2.drew := (Below.refl w2.heap.size w2).drew
  refine wp_region_held_drew (S := (fun W : World => Below w2.heap.size w2 W)) (by kernel_rfl) hS0 (fun hHeld => ?_)
  clear hHeld
  have hG := Try.guard68
  refine wpAnyH_take (i := 0) (oi := ⟨some 31, _, _, _, _, _⟩) (v := ?ve1) rfl (by kernel_rfl) (by kernel_rfl) (by kernel_rfl) (fun _ _ _ h => h) (Or.inl ⟨by kernel_rfl, ?hye1⟩) (by assumption) ?reste1
  case hye1 => (intro W hSw; (try dsimp only at hSw); go_simp; try with_reducible rfl)
  case' reste1 => try simp only [Act.put, List.setIfInBounds_toArray, List.set_cons_zero, List.set_cons_succ]
  refine wpAnyH_take (i := 1) (oi := ⟨some 32, _, _, _, _, _⟩) (v := ?ve2) rfl (by kernel_rfl) (by kernel_rfl) (by kernel_rfl) (fun _ _ _ h => h) (Or.inl ⟨by kernel_rfl, ?hye2⟩) (by assumption) ?reste2
  case hye2 => (intro W hSw; obtain ⟨c0, c1, c2, _⟩ := HA2.out W hSw; clear hSw; (try dsimp only at hSw); go_simp; try with_reducible rfl)
  case' reste2 => try simp only [Act.put, List.setIfInBounds_toArray, List.set_cons_zero, List.set_cons_succ]
  refine wpAnyH_take (i := 3) (oi := ⟨some 34, _, _, _, _, _⟩) (v := ?ve3) rfl (by kernel_rfl) (by kernel_rfl) (by kernel_rfl) (fun _ _ _ h => h) (Or.inl ⟨by kernel_rfl, ?hye3⟩) (by assumption) ?reste3
  case hye3 => (intro W hSw; (try dsimp only at hSw); go_simp; try with_reducible rfl)
  case' reste3 => try simp only [Act.put, List.setIfInBounds_toArray, List.set_cons_zero, List.set_cons_succ]
  refine wpAnyH_take (i := 4) (oi := ⟨some 35, _, _, _, _, _⟩) (v := ?ve4) rfl (by kernel_rfl) (by kernel_rfl) (by kernel_rfl) (fun _ _ _ h => h) (Or.inl ⟨by kernel_rfl, ?hye4⟩) (by assumption) ?reste4
  case hye4 => (intro W hSw; obtain ⟨c0, c1, c2, _⟩ := HB2.out W hSw; clear hSw; (try dsimp only at hSw); go_simp; try with_reducible rfl)
  case' reste4 => try simp only [Act.put, List.setIfInBounds_toArray, List.set_cons_zero, List.set_cons_succ]
  refine wpAnyH_ready (rs := [2]) (by kernel_rfl) (by simp) ?_
  refine AllReadyH.cons (o := ⟨some 33, _, _, _, _, _⟩) rfl (fun K hK => ?_) AllReadyH.nil
  go_simp
  go_at_call 27
  refine (size_of a.p0 _).mono ?_
  rintro e We1 ⟨rfl, hbWe1⟩
  have hSWe1 := hS0.trans (hbWe1.mono hS0.size)
  try clear hS0
  clear hbWe1
  go_wp2_with fail
  refine hK.out _ _ hSWe1 (fun hHeld => ?_)
  clear hK hHeld K
  try simp only [Act.put, List.setIfInBounds_toArray, List.set_cons_zero, List.set_cons_succ]
  refine wpAnyH_ready (rs := [5]) (by kernel_rfl) (by simp) ?_
  refine AllReadyH.cons (o := ⟨some 36, _, _, _, _, _⟩) rfl (fun K hK => ?_) AllReadyH.nil
  go_simp
  go_at_call 27
  refine (size_of b.p0 _).mono ?_
  rintro e We2 ⟨rfl, hbWe2⟩
  have hSWe2 := hSWe1.trans (hbWe2.mono hSWe1.size)
  try clear hSWe1
  clear hbWe2
  go_wp2_with fail
  refine hK.out _ _ hSWe2 (fun hHeld => ?_)
  clear hK hHeld K
  try simp only [Act.put, List.setIfInBounds_toArray, List.set_cons_zero, List.set_cons_succ]
  refine wpAnyH_take (i := 6) (oi := ⟨some 37, _, _, _, _, _⟩) (v := ?ve5) rfl (by kernel_rfl) (by kernel_rfl) (by kernel_rfl) (fun _ _ _ h => h) (Or.inl ⟨by kernel_rfl, ?hye5⟩) (by assumption) ?reste5
  case hye5 => (intro W hSw; (try dsimp only at hSw); go_simp; try with_reducible rfl)
  case' reste5 => try simp only [Act.put, List.setIfInBounds_toArray, List.set_cons_zero, List.set_cons_succ]
  refine wpAnyH_done (by kernel_rfl) ?_ _
  have hS9 := hSWe2
  clear hN hG
  generalize We2 = w5 at *
  obtain ⟨c0, c1, c2, c3, c4, c5, c6, c7, c8, c9, c10, c11⟩ := HA2.out w5 hS9
  rw [HEW.out] at c0
  rw [HEH.out] at c1
  have hmm := @run_makeMap Try.prog
  have h5 : w.heap.size < w5.heap.size := by have := (hb02.trans (hS9.mono hb02.size)).size; omega
  go_wp2_with fail
  clear c0 c1 c2 c3 c4 c5 c6 c7 c8 c9 c10 c11 hmm
  have hM0 := MapR.made w5
  have hb6 : Below w5.heap.size w5 (w5.alloc (.map #[] 0)) := bw1 _ _
  have hs6 : (w5.alloc (.map #[] 0)).heap.size = w5.heap.size + 1 := by simp
  generalize w5.alloc (.map #[] 0) = w6 at *
  obtain ⟨B, hB⟩ : ∃ B, w5.heap.size = B := ⟨_, rfl⟩
  rw [hB] at hM0 hb6 hs6 ⊢
  have kw5 := kw2.trans (hS9.mono kw2.size)
  have hRxa5 := hRxa.below hS9
  have hRxb5 := hRxb.below hS9
  clear hS9 hRxa hRxb h5 CA CB k0 hs0 hb02 kw2
  go_loopw [4, 45] (fun v i wr => ∃ (y N : Nat) (f : Int × Int → Option Int), y ≤ Hm ∧ i = .int .i64 y ∧ OwnX wr w6.heap.size v (bxTo a b y) ∧ MapR wr B N f ∧ N ≤ y * Wm ∧ IM ((y : Int) - 1) [] (bxTo a b y) f ∧ Below B w5 wr) (fun _ i _ => Hm - (intOf i).toNat)
  case atStart => exact ⟨0, 0, fun _ => none, by omega, rfl, Own.nil w6 _, hM0, by omega, IM.start _ _, hb6⟩
  case round =>
    clear hM0 hb6
    obtain ⟨y, N, f, hy, rfl, hown, hM, hN, hI, hbw⟩ := hrel
    rw [← hB] at hbw
    by_cases hlt : y < Hm
    · have hfit : y * Wm + Wm ≤ Hm * Wm := by
        have := Nat.mul_le_mul_right Wm (show y + 1 ≤ Hm from hlt)
        rwa [Nat.succ_mul] at this
      have hbig : Hm * Wm ≤ 256 * 256 := Nat.mul_le_mul lH lW
      have hlb2 := HTL.out y
      obtain ⟨o, ho⟩ : ∃ o, y * Wm = o := ⟨_, rfl⟩
      rw [ho] at hfit hN hlb2
      have hca : o + Wm ≤ ca := by have := HLA.out; omega
      have hcb : o + Wm ≤ cb := by have := HLB.out; omega
      have hra : (rowOf (colL a) o Wm).length = Wm := by unfold rowOf; simp; have := HLA.out; omega
      have hrb : (rowOf (colL b) o Wm).length = Wm := by unfold rowOf; simp; have := HLB.out; omega
      have hna : colL a ≠ [] := by intro e; have := HLA.out; rw [e] at this; simp at this; omega
      have hnb : colL b ≠ [] := by intro e; have := HLB.out; rw [e] at this; simp at this; omega
      obtain ⟨ba, offa, rfl, hba, hRa1⟩ : ∃ ba offa, Aa = some ⟨ba, offa, none⟩ ∧ ba < w5.heap.size ∧ RdI w5 (some ⟨ba, offa + o, none⟩) (rowOf (colL a) o Wm) := by
        have h0 := hRxa5
        rcases h0 with h0 | ⟨ba, offa, rfl, hba, _⟩
        · exact absurd h0 hna
        · exact ⟨ba, offa, rfl, hba, Mp.Rd.take (rd_drop1 hRxa5 o) Wm⟩
      obtain ⟨bb, offb, rfl, hbb, hRb1⟩ : ∃ bb offb, Ab = some ⟨bb, offb, none⟩ ∧ bb < w5.heap.size ∧ RdI w5 (some ⟨bb, offb + o, none⟩) (rowOf (colL b) o Wm) := by
        have h0 := hRxb5
        rcases h0 with h0 | ⟨bb, offb, rfl, hbb, _⟩
        · exact absurd h0 hnb
        · exact ⟨bb, offb, rfl, hbb, Mp.Rd.take (rd_drop1 hRxb5 o) Wm⟩
      have cR0 := proof_runs (some ⟨ba, offa + o, none⟩) (some ⟨bb, offb + o, none⟩) (ca - o) (cb - o) (rowOf (colL a) o Wm) (rowOf (colL b) o Wm) wr.drew (by omega) (by omega) (hRa1.below hbw.drew) (hRb1.below hbw.drew)
      rw [hra, hrb] at cR0
      have cR := Lib.hid cR0
      have HRS : Hid (bxRun a b y = (normL (diffR (rowOf (colL a) o Wm) (rowOf (colL b) o Wm))).map (toBx y)) := Lib.hid (by
        rw [HRUN.out, ho]
        unfold rowRuns
        rw [← norm_diff]
        unfold diffR
        rw [hra])
      clear cR0 hRa1 hRb1 hra hrb hna hnb
      have hw1 : IntKind.i64.wrap ((y : Int) * (Wm : Int)) = (o : Int) := by
        rw [← Int.natCast_mul, ho]
        exact IntWalk.i64_in _ (by omega)
      have hw2 : IntKind.i64.wrap (((y : Int) + 1) * (Wm : Int)) = ((o + Wm : Nat) : Int) := by
        rw [show ((y : Int) + 1) * (Wm : Int) = ((o + Wm : Nat) : Int) from by rw [← ho, Int.natCast_add, Int.natCast_mul, Int.add_mul, Int.one_mul]]
        exact IntWalk.i64_in _ (by omega)
      obtain ⟨hi, hhi⟩ : ∃ hi, o + Wm = hi := ⟨_, rfl⟩
      rw [hhi] at hw2 hca hcb hfit
      have hsub : hi - o = Wm := by omega
      have hlo1 : ¬ ca = o := by omega
      have hlo2 : ¬ cb = o := by omega
      have hle1 : o ≤ hi := by omega
      have hw0 : IntKind.i64.wrap ((y : Int) + 1) = (y : Int) + 1 := IntWalk.i64_in _ (by omega)
      have HO := Lib.hid ho
      have HH := Lib.hid hhi
      clear ho hhi
      go_wp2_with fail
      refine wp_region_held_drew (S := fun _ : World => True) (by kernel_rfl) trivial (fun hHeld => ?_)
      clear hHeld
      refine wpAnyH_take (i := 0) (oi := ⟨some 48, _, _, _, _, _⟩) (v := ?vs1) rfl (by kernel_rfl) (by kernel_rfl) (by kernel_rfl) (fun _ _ _ h => h) (Or.inl ⟨by kernel_rfl, ?hys1⟩) trivial ?rests1
      case hys1 => (intro W hSw; (try dsimp only at hSw); go_simp; try with_reducible rfl)
      case' rests1 => try simp only [Act.put, List.setIfInBounds_toArray, List.set_cons_zero, List.set_cons_succ]
      refine wpAnyH_take (i := 1) (oi := ⟨some 49, _, _, _, _, _⟩) (v := ?vs2) rfl (by kernel_rfl) (by kernel_rfl) (by kernel_rfl) (fun _ _ _ h => h) (Or.inl ⟨by kernel_rfl, ?hys2⟩) trivial ?rests2
      case hys2 => (intro W hSw; (try dsimp only at hSw); go_simp; try with_reducible rfl)
      case' rests2 => try simp only [Act.put, List.setIfInBounds_toArray, List.set_cons_zero, List.set_cons_succ]
      refine wpAnyH_take (i := 2) (oi := ⟨some 50, _, _, _, _, _⟩) (v := ?vs3) rfl (by kernel_rfl) (by kernel_rfl) (by kernel_rfl) (fun _ _ _ h => h) (Or.inl ⟨by kernel_rfl, ?hys3⟩) trivial ?rests3
      case hys3 => (intro W hSw; (try dsimp only at hSw); go_simp; try with_reducible rfl)
      case' rests3 => try simp only [Act.put, List.setIfInBounds_toArray, List.set_cons_zero, List.set_cons_succ]
      refine wpAnyH_take (i := 3) (oi := ⟨some 51, _, _, _, _, _⟩) (v := ?vs4) rfl (by kernel_rfl) (by kernel_rfl) (by kernel_rfl) (fun _ _ _ h => h) (Or.inl ⟨by kernel_rfl, ?hys4⟩) trivial ?rests4
      case hys4 => (intro W hSw; (try dsimp only at hSw); go_simp; try with_reducible rfl)
      case' rests4 => try simp only [Act.put, List.setIfInBounds_toArray, List.set_cons_zero, List.set_cons_succ]
      refine wpAnyH_take (i := 4) (oi := ⟨some 52, _, _, _, _, _⟩) (v := ?vs5) rfl (by kernel_rfl) (by kernel_rfl) (by kernel_rfl) (fun _ _ _ h => h) (Or.inl ⟨by kernel_rfl, ?hys5⟩) trivial ?rests5
      case hys5 => (intro W hSw; (try dsimp only at hSw); go_simp; try with_reducible rfl)
      case' rests5 => try simp only [Act.put, List.setIfInBounds_toArray, List.set_cons_zero, List.set_cons_succ]
      refine wpAnyH_take (i := 5) (oi := ⟨some 53, _, _, _, _, _⟩) (v := ?vs6) rfl (by kernel_rfl) (by kernel_rfl) (by kernel_rfl) (fun _ _ _ h => h) (Or.inl ⟨by kernel_rfl, ?hys6⟩) trivial ?rests6
      case hys6 => (intro W hSw; (try dsimp only at hSw); go_simp; try with_reducible rfl)
      case' rests6 => try simp only [Act.put, List.setIfInBounds_toArray, List.set_cons_zero, List.set_cons_succ]
      refine wpAnyH_take (i := 6) (oi := ⟨some 54, _, _, _, _, _⟩) (v := ?vs7) rfl (by kernel_rfl) (by kernel_rfl) (by kernel_rfl) (fun _ _ _ h => h) (Or.inl ⟨by kernel_rfl, ?hys7⟩) trivial ?rests7
      case hys7 => (intro W hSw; (try dsimp only at hSw); go_simp; try with_reducible rfl)
      case' rests7 => try simp only [Act.put, List.setIfInBounds_toArray, List.set_cons_zero, List.set_cons_succ]
      refine wpAnyH_take (i := 7) (oi := ⟨some 55, _, _, _, _, _⟩) (v := ?vs8) rfl (by kernel_rfl) (by kernel_rfl) (by kernel_rfl) (fun _ _ _ h => h) (Or.inl ⟨by kernel_rfl, ?hys8⟩) trivial ?rests8
      case hys8 => (intro W hSw; (try dsimp only at hSw); go_simp; try with_reducible rfl)
      case' rests8 => try simp only [Act.put, List.setIfInBounds_toArray, List.set_cons_zero, List.set_cons_succ]
      refine wpAnyH_take (i := 8) (oi := ⟨some 56, _, _, _, _, _⟩) (v := ?vs9) rfl (by kernel_rfl) (by kernel_rfl) (by kernel_rfl) (fun _ _ _ h => h) (Or.inl ⟨by kernel_rfl, ?hys9⟩) trivial ?rests9
      case hys9 => (intro W hSw; (try dsimp only at hSw); go_simp; try with_reducible rfl)
      case' rests9 => try simp only [Act.put, List.setIfInBounds_toArray, List.set_cons_zero, List.set_cons_succ]
      refine wpAnyH_take (i := 9) (oi := ⟨some 57, _, _, _, _, _⟩) (v := ?vs10) rfl (by kernel_rfl) (by kernel_rfl) (by kernel_rfl) (fun _ _ _ h => h) (Or.inl ⟨by kernel_rfl, ?hys10⟩) trivial ?rests10
      case hys10 => (intro W hSw; (try dsimp only at hSw); go_simp; try with_reducible rfl)
      case' rests10 => try simp only [Act.put, List.setIfInBounds_toArray, List.set_cons_zero, List.set_cons_succ]
      refine wpAnyH_take (i := 10) (oi := ⟨some 58, _, _, _, _, _⟩) (v := ?vs11) rfl (by kernel_rfl) (by kernel_rfl) (by kernel_rfl) (fun _ _ _ h => h) (Or.inl ⟨by kernel_rfl, ?hys11⟩) trivial ?rests11
      case hys11 => (intro W hSw; (try dsimp only at hSw); go_simp; try with_reducible rfl)
      case' rests11 => try simp only [Act.put, List.setIfInBounds_toArray, List.set_cons_zero, List.set_cons_succ]
      refine wpAnyH_take (i := 11) (oi := ⟨some 59, _, _, _, _, _⟩) (v := ?vs12) rfl (by kernel_rfl) (by kernel_rfl) (by kernel_rfl) (fun _ _ _ h => h) (Or.inl ⟨by kernel_rfl, ?hys12⟩) trivial ?rests12
      case hys12 => (intro W hSw; (try dsimp only at hSw); go_simp; try with_reducible rfl)
      case' rests12 => try simp only [Act.put, List.setIfInBounds_toArray, List.set_cons_zero, List.set_cons_succ]
      refine wpAnyH_take (i := 12) (oi := ⟨some 60, _, _, _, _, _⟩) (v := ?vs13) rfl (by kernel_rfl) (by kernel_rfl) (by kernel_rfl) (fun _ _ _ h => h) (Or.inl ⟨by kernel_rfl, ?hys13⟩) trivial ?rests13
      case hys13 => (intro W hSw; (try dsimp only at hSw); go_simp; try with_reducible rfl)
      case' rests13 => try simp only [Act.put, List.setIfInBounds_toArray, List.set_cons_zero, List.set_cons_succ]
      refine wpAnyH_take (i := 13) (oi := ⟨some 61, _, _, _, _, _⟩) (v := ?vs14) rfl (by kernel_rfl) (by kernel_rfl) (by kernel_rfl) (fun _ _ _ h => h) (Or.inl ⟨by kernel_rfl, ?hys14⟩) trivial ?rests14
      case hys14 => (intro W hSw; (try dsimp only at hSw); go_simp; try with_reducible rfl)
      case' rests14 => try simp only [Act.put, List.setIfInBounds_toArray, List.set_cons_zero, List.set_cons_succ]
      refine wpAnyH_take (i := 14) (oi := ⟨some 62, _, _, _, _, _⟩) (v := ?vs15) rfl (by kernel_rfl) (by kernel_rfl) (by kernel_rfl) (fun _ _ _ h => h) (Or.inl ⟨by kernel_rfl, ?hys15⟩) trivial ?rests15
      case hys15 => (intro W hSw; (try dsimp only at hSw); go_simp; try with_reducible rfl)
      case' rests15 => try simp only [Act.put, List.setIfInBounds_toArray, List.set_cons_zero, List.set_cons_succ]
      refine wpAnyH_take (i := 15) (oi := ⟨some 63, _, _, _, _, _⟩) (v := ?vs16) rfl (by kernel_rfl) (by kernel_rfl) (by kernel_rfl) (fun _ _ _ h => h) (Or.inl ⟨by kernel_rfl, ?hys16⟩) trivial ?rests16
      case hys16 => (intro W hSw; (try dsimp only at hSw); go_simp; try with_reducible rfl)
      case' rests16 => try simp only [Act.put, List.setIfInBounds_toArray, List.set_cons_zero, List.set_cons_succ]
      refine wpAnyH_take (i := 16) (oi := ⟨some 64, _, _, _, _, _⟩) (v := ?vs17) rfl (by kernel_rfl) (by kernel_rfl) (by kernel_rfl) (fun _ _ _ h => h) (Or.inl ⟨by kernel_rfl, ?hys17⟩) trivial ?rests17
      case hys17 => (intro W hSw; (try dsimp only at hSw); go_simp; try with_reducible rfl)
      case' rests17 => try simp only [Act.put, List.setIfInBounds_toArray, List.set_cons_zero, List.set_cons_succ]
      refine wpAnyH_take (i := 17) (oi := ⟨some 65, _, _, _, _, _⟩) (v := ?vs18) rfl (by kernel_rfl) (by kernel_rfl) (by kernel_rfl) (fun _ _ _ h => h) (Or.inl ⟨by kernel_rfl, ?hys18⟩) trivial ?rests18
      case hys18 => (intro W hSw; (try dsimp only at hSw); go_simp; try with_reducible rfl)
      case' rests18 => try simp only [Act.put, List.setIfInBounds_toArray, List.set_cons_zero, List.set_cons_succ]
      refine wpAnyH_take (i := 20) (oi := ⟨some 68, _, _, _, _, _⟩) (v := ?vs19) rfl (by kernel_rfl) (by kernel_rfl) (by kernel_rfl) (fun _ _ _ h => h) (Or.inl ⟨by kernel_rfl, ?hys19⟩) trivial ?rests19
      case hys19 => (intro W hSw; (try dsimp only at hSw); go_simp; try with_reducible rfl)
      case' rests19 => try simp only [Act.put, List.setIfInBounds_toArray, List.set_cons_zero, List.set_cons_succ]
      refine wpAnyH_ready (rs := [18]) (by kernel_rfl) (by simp) ?_
      refine AllReadyH.cons (o := ⟨some 66, _, _, _, _, _⟩) rfl (fun K hK => ?_) AllReadyH.nil
      go_simp
      go_at_call 29
      refine cR.out.mono ?_
      rintro e w3 ⟨vl, rfl, hol, hb3⟩
      obtain ⟨Al, cl, rfl⟩ := Own.slice hol
      go_wp2_with fail
      refine hK.out _ _ trivial (fun hHeld => ?_)
      clear hK hHeld K
      try simp only [Act.put, List.setIfInBounds_toArray, List.set_cons_zero, List.set_cons_succ]
      refine wpAnyH_take (i := 19) (oi := ⟨some 67, _, _, _, _, _⟩) (v := ?vs20) rfl (by kernel_rfl) (by kernel_rfl) (by kernel_rfl) (fun _ _ _ h => h) (Or.inl ⟨by kernel_rfl, ?hys20⟩) trivial ?rests20
      case hys20 => (intro W hSw; (try dsimp only at hSw); go_simp; try with_reducible rfl)
      case' rests20 => try simp only [Act.put, List.setIfInBounds_toArray, List.set_cons_zero, List.set_cons_succ]
      refine wpAnyH_done (by kernel_rfl) ?_ _
      skip
      clear hw0 hw1 hw2 hsub hlo1 hlo2 cR
      have hb03 : Below wr.heap.size wr w3 := (Below.refl wr.heap.size wr).drew.trans hb3
      have hown3 := hown.below hb03
      have hM3 := hM.below hb03 hM.lt
      have hbw3 := hbw.trans (hb03.mono hbw.size)
      have hol0 : OwnA 74 2 encR w3 0 (fun j => u4.ownBlock = some j ∨ j = B) (.slice Al (normL (diffR (rowOf (colL a) o Wm) (rowOf (colL b) o Wm))).length cl) (normL (diffR (rowOf (colL a) o Wm) (rowOf (colL b) o Wm))) := ⟨hol.mono (Nat.zero_le _), fun j hj hj' => by
        have h1 : wr.heap.size ≤ j := (World.ownsRow.lt hol j hj).1
        rcases hj' with h | h
        · have h2 := (World.ownsRow.lt hown j h).2
          omega
        · have := hM.lt; omega⟩
      have hI0 := hI.row (normL (diffR (rowOf (colL a) o Wm) (rowOf (colL b) o Wm)))
      rw [show (y : Int) - 1 + 1 = y by omega] at hI0
      have HVLD := Lib.hid (normL_vld (diffR (rowOf (colL a) o Wm) (rowOf (colL b) o Wm)))
      have HBD := Lib.hid (norm_bounds (rowOf (colL a) o Wm) (rowOf (colL b) o Wm) (show (rowOf (colL a) o Wm).length ≤ Wm by unfold rowOf; simp; omega))
      have hrl : (normL (diffR (rowOf (colL a) o Wm) (rowOf (colL b) o Wm))).length ≤ Wm := by
        have h1 := HRL.out y
        rw [HRS.out, List.length_map] at h1
        exact h1
      have HTO0 : Hid (bxTo a b (y + 1) = (normL (diffR (rowOf (colL a) o Wm) (rowOf (colL b) o Wm))).foldl (fun l r => extL l (toBx y r)) (bxTo a b y)) := Lib.hid (by
        show (bxRun a b y).foldl extL (bxTo a b y) = _
        rw [HRS.out, List.foldl_map])
      clear hown hM hbw hb03 hb3 hol hI HRS
      obtain ⟨rs, hrs⟩ : ∃ rs, normL (diffR (rowOf (colL a) o Wm) (rowOf (colL b) o Wm)) = rs := ⟨_, rfl⟩
      obtain ⟨l0, hl0⟩ : ∃ l0, bxTo a b y = l0 := ⟨_, rfl⟩
      rw [hrs] at hol0 hI0 HVLD HBD hrl HTO0 ⊢
      rw [hl0] at hown3 hI0 HTO0 hlb2
      clear hrs hl0
      have hol1 : OwnA 74 2 encR w3 0 (fun j => u4.ownBlock = some j ∨ j = B) (.slice Al rs.length cl) rs := hol0
      clear hol0
      rw [← hB] at hs6
      go_wp2_with fail
      go_loopw [4, 68] (fun v i wr => ∃ (k N : Nat) (f : Int × Int → Option Int), k ≤ rs.length ∧ i = .int .i64 k ∧ OwnX wr w6.heap.size v ((rs.take k).foldl (fun l r => extL l (toBx y r)) l0) ∧ OwnA 74 2 encR wr 0 (fun j => v.ownBlock = some j ∨ j = B) (.slice Al rs.length cl) rs ∧ MapR wr B N f ∧ N ≤ o + k ∧ IM y (rs.drop k) ((rs.take k).foldl (fun l r => extL l (toBx y r)) l0) f ∧ Below w5.heap.size w5 wr) (fun _ i _ => rs.length - (intOf i).toNat)
      case atStart => exact ⟨0, N, f, by omega, rfl, hown3, hol1, hM3, by omega, hI0, hbw3⟩
      case round =>
        clear hown3 hol1 hM3 hI0 hbw3 hN
        obtain ⟨k, N, f, hk, rfl, hown, hol, hM, hN, hI, hbw⟩ := hrel
        by_cases hlk : k < rs.length
        · obtain ⟨bl, ofl, rfl, hbl, c0, c1⟩ := RdR.get (Own.rd encR_len hol.1) (Below.refl _ _) hlk
          have HF := Lib.hid (foldl_take_succ (fun l r => extL l (toBx y r)) l0 rs k hlk)
          have hlen : ((rs.take k).foldl (fun l r => extL l (toBx y r)) l0).length ≤ l0.length + k := by
            have h1 := ext_len ((rs.take k).map (toBx y)) l0
            rw [List.foldl_map, List.length_map, List.length_take] at h1
            omega
          have hdrop : rs.drop k = rs[k]! :: rs.drop (k + 1) := by rw [List.drop_eq_getElem_cons hlk, getElem!_pos rs k hlk]
          rw [hdrop] at hI
          have hnd : (rs[k]! :: rs.drop (k + 1)).Nodup := by
            rw [← hdrop]
            exact (vld_nodup HVLD.out).sublist (List.drop_sublist _ _)
          obtain ⟨hq1, hq2, hq3⟩ := HBD.out rs[k]! (by rw [getElem!_pos rs k hlk]; exact List.getElem_mem hlk)
          obtain ⟨q, hq⟩ : ∃ q, rs[k]! = q := ⟨_, rfl⟩
          rw [hq] at c0 c1 hI hnd hq1 hq2 hq3
          have HQ := Lib.hid hq
          obtain ⟨L, hL⟩ : ∃ L, (rs.take k).foldl (fun l r => extL l (toBx y r)) l0 = L := ⟨_, rfl⟩
          rw [hL] at hown hI hlen HF
          clear hq hL hdrop
          have hwf : wfR q := ⟨wf_small (by omega), wf_small (by omega)⟩
          have HWF := Lib.hid hwf
          have HND := Lib.hid hnd
          clear hwf hnd
          have hMl := hM.lt
          have hbs := hbw.size
          have hBb : w5.heap.size ≤ B := by omega
          have hB6 : B < w6.heap.size := by omega
          obtain ⟨q0, q1⟩ := q
          dsimp only at c0 c1 hq1 hq2 hq3
          have hwq : IntKind.i64.wrap (q1 - 1) = q1 - 1 := IntWalk.i64_in _ (by omega)
          have hwy : IntKind.i64.wrap ((y : Int) - 1) = (y : Int) - 1 := IntWalk.i64_in _ (by omega)
          have kbl := bw1 wr (.cells #[.int .i64 q0, .int .i64 q1] 74)
          have hB5 : w5.heap.size ≤ w6.heap.size := by omega
          rcases hf : f (q0, q1) with _ | i
          · have hno : ∀ n : Nat, f (q0, q1) = some (n : Int) → L[n]!.y1 ≠ (y : Int) - 1 := fun n hn => by rw [hf] at hn; cases hn
            obtain ⟨hadd, hI'⟩ := hI.add HND.out hno
            have HAD := Lib.hid hadd
            have HI := Lib.hid hI'
            clear hadd hI' hI hno
            obtain ⟨A, cap, rfl⟩ := Own.slice hown
            have hnb := own_ne_base hown hB6
            have HMM := Lib.hid hM
            obtain ⟨i0, hi0, hz0, hz1, hz2⟩ := info_parts Try.infoX
            have hqw := HWF.out
            have HF0 := Lib.hid hf
            clear hf hM
            go_wp2_with (first
              | (at_lookup; refine MapR.look (HMM.out.below kbl HMM.out.lt) rfl _ _ rfl (Try.zero3 _) rfl (q0, q1) rfl hqw (fun n' hn' => by rw [HF0.out] at hn'; cases hn') (fun _ c0 => ?_))
              | (at_mapUpdate; refine MapR.store (HMM.out.below kbl HMM.out.lt) rfl _ _ _ rfl rfl (q0, q1) (L.length : Int) rfl rfl hqw (wf_small (by omega)) (by omega) ?_; intro w7 hM7 hg7; have hown7 : OwnA 38 4 encX w7 w6.heap.size (fun _ => False) (.slice A L.length cap) L := ⟨World.ownsRow.kept (hown.alloc _) hg7 hnb, fun _ _ h => h⟩; have e0 : w7.cell? ⟨wr.heap.size, 0, none⟩ = some (.int .i64 q0) := (cell_kept hg7 (p := ⟨wr.heap.size, 0, none⟩) (by simp) (by simp; omega)).trans (by simp); have e1 : w7.cell? ⟨wr.heap.size, 1, none⟩ = some (.int .i64 q1) := (cell_kept hg7 (p := ⟨wr.heap.size, 1, none⟩) (by simp) (by simp; omega)).trans (by simp); have hs7 := hg7.size; have hz7 : wr.heap.size + 1 ≤ w7.heap.size := by simpa using hs7)
              | (at_builtin; refine Mp.OwnA.append1 (enc := encX) 32 i0 (.agg #[.int .i64 0, .int .i64 0, .int .i64 0, .int .i64 0]) 32 Try.underlying32 hi0 hz0 hz1 hz2 rfl (by decide) (by decide) encX_len ⟨q0, y, q1 - 1, y⟩ (encX_one _) rfl _ _ rfl hown7 (fun j hj => hj.elim) rfl rfl (by omega) (by omega) ?_; intro v8 w8 hown8 hg8 hloc8))
            have hg07 : wr.grownBy w7 (some B) := (grown_below kbl).trans hg7
            have hol7 := hol_map hol hg07
            have hol8 := hol_step hol7 hg8 hloc8
            have hne8 : some B ≠ (Value.slice A L.length cap).ownBlock := fun e => by
              rcases hnb with h | h
              · rw [h] at e; cases e
              · exact h e.symm
            have hM8 := hM7.kept hg8 hne8
            have hbw7 := hbw.grown hg07 hbs (fun j hj => by injection hj with hj; omega)
            have hbw8 := hbw7.grown hg8 (Nat.le_trans hbs hg07.size) (fun j hj => Nat.le_trans hB5 (hown7.lt hj).1)
            clear hown7 hM7 hg7 hg8 hol7 hol hbw7
            go_roundw
            case rel => exact ⟨k + 1, N + 1, setR f (q0, q1) L.length, by omega, by go_num, by rw [HF.out, HQ.out, HAD.out]; exact hown8.1, hol8, hM8, by omega, by rw [HF.out, HQ.out]; exact HI.out, hbw8⟩
            case measure => simp [intOf]; omega
          · obtain ⟨n, rfl, hn, _, _⟩ := hI.last _ i hf
            by_cases hyy : L[n]!.y1 = (y : Int) - 1
            · skip
              obtain ⟨hgr, hI'⟩ := hI.grow HND.out hf hn hyy
              have HAD := Lib.hid hgr
              have HI := Lib.hid hI'
              have HMM := Lib.hid hM
              have hqw := HWF.out
              have HF0 := Lib.hid hf
              obtain ⟨g, cap, hv, _, hbg, hgl, hcell, hfr, _⟩ := Mp.Own.row encX_len hown (by omega)
              subst hv
              have hc3 := hcell n hn 3 _ rfl
              have hf3 := hfr (n * 4 + 3)
              have HST : Hid (OwnX ((wr.setCell ⟨g, n * 4 + 3, none⟩ (.int .i64 y)).alloc (.cells #[.int .i64 q0, .int .i64 q1] 74)) w6.heap.size (.slice (some ⟨g, 0, none⟩) L.length cap) (L.set n { L[n]! with y1 := y })) := Lib.hid (by
                obtain ⟨g', cap', hv', _, _, _, _, _, hset'⟩ := Mp.Own.row encX_len hown (by omega)
                injection hv' with hv' _ _
                injection hv' with hv'
                injection hv' with hv'
                subst hv'
                exact Own.alloc (hset' n hn 3 (.int .i64 y) { L[n]! with y1 := y } (by omega) rfl) _)
              have hbe : (L[n]!.y1 == (y : Int) - 1) = true := beq_iff_eq.2 hyy
              obtain ⟨y1, hy1⟩ : ∃ y1, L[n]!.y1 = y1 := ⟨_, rfl⟩
              rw [hy1] at hc3 hbe
              have hgs : wr.grownBy ((wr.setCell ⟨g, n * 4 + 3, none⟩ (.int .i64 y)).alloc (.cells #[.int .i64 q0, .int .i64 q1] 74)) (some g) := (grown_set wr g _ _).trans (World.grownBy_alloc _ _ _)
              have hol2 := hol_step (v := .slice (some ⟨g, 0, none⟩) L.length cap) (v' := .slice (some ⟨g, 0, none⟩) L.length cap) hol hgs (.inl rfl)
              have hM2 := hM.kept hgs (fun e => by injection e with e; omega)
              have hbw2 := hbw.grown hgs hbs (fun j hj => by injection hj with hj; omega)
              clear hcell hfr hyy hy1 hgr hI' hI hf hM hol hown hbw
              go_wp2_with (at_lookup; refine MapR.look (HMM.out.below kbl HMM.out.lt) rfl _ _ rfl (Try.zero3 _) rfl (q0, q1) rfl hqw (fun n' hn' => ?_) (fun h => by rw [HF0.out] at h; cases h); obtain rfl : n' = (n : Int) := (by rw [HF0.out] at hn'; injection hn' with h; exact h.symm))
              go_roundw
              case rel => exact ⟨k + 1, N, f, by omega, by go_num, by rw [HF.out, HQ.out, HAD.out]; exact HST.out, hol2, hM2, by omega, by rw [HF.out, HQ.out]; exact HI.out, hbw2⟩
              case measure => simp [intOf]; omega
            · have hno : ∀ m : Nat, f (q0, q1) = some (m : Int) → L[m]!.y1 ≠ (y : Int) - 1 := fun m hm => by
                rw [hf] at hm
                injection hm with hm
                have : n = m := by omega
                subst this
                exact hyy
              obtain ⟨hadd, hI'⟩ := hI.add HND.out hno
              have HAD := Lib.hid hadd
              have HI := Lib.hid hI'
              clear hadd hI' hI hno
              obtain ⟨A, cap, rfl⟩ := Own.slice hown
              have hnb := own_ne_base hown hB6
              have HMM := Lib.hid hM
              obtain ⟨i0, hi0, hz0, hz1, hz2⟩ := info_parts Try.infoX
              have hqw := HWF.out
              have HF0 := Lib.hid hf
              clear hf hM
              obtain ⟨g, cap', hv, _, hbg, hgl, hcell, hfr, _⟩ := Mp.Own.row encX_len hown (by omega)
              injection hv with hv hx1 hx2
              clear hx1 hx2
              have hc3 := hcell n hn 3 _ rfl
              have hbe : (L[n]!.y1 == (y : Int) - 1) = false := beq_eq_false_iff_ne.2 hyy
              obtain ⟨y1, hy1⟩ : ∃ y1, L[n]!.y1 = y1 := ⟨_, rfl⟩
              rw [hy1] at hc3 hbe
              have HVV := Lib.hid hv
              clear hcell hfr hyy hy1
              subst hv
              go_wp2_with (first
                | (at_lookup; refine MapR.look (HMM.out.below kbl HMM.out.lt) rfl _ _ rfl (Try.zero3 _) rfl (q0, q1) rfl hqw (fun n' hn' => ?_) (fun h => by rw [HF0.out] at h; cases h); obtain rfl : n' = (n : Int) := (by rw [HF0.out] at hn'; injection hn' with h; exact h.symm))
                | (at_mapUpdate; refine MapR.store (HMM.out.below kbl HMM.out.lt) rfl _ _ _ rfl rfl (q0, q1) (L.length : Int) rfl rfl hqw (wf_small (by omega)) (by omega) ?_; intro w7 hM7 hg7; have hown7 : OwnA 38 4 encX w7 w6.heap.size (fun _ => False) (.slice (some ⟨g, 0, none⟩) L.length cap) L := ⟨World.ownsRow.kept (hown.alloc _) hg7 hnb, fun _ _ h => h⟩; have e0 : w7.cell? ⟨wr.heap.size, 0, none⟩ = some (.int .i64 q0) := (cell_kept hg7 (p := ⟨wr.heap.size, 0, none⟩) (by simp) (by simp; omega)).trans (by simp); have e1 : w7.cell? ⟨wr.heap.size, 1, none⟩ = some (.int .i64 q1) := (cell_kept hg7 (p := ⟨wr.heap.size, 1, none⟩) (by simp) (by simp; omega)).trans (by simp); have hs7 := hg7.size; have hz7 : wr.heap.size + 1 ≤ w7.heap.size := by simpa using hs7)
                | (at_builtin; refine Mp.OwnA.append1 (enc := encX) 32 i0 (.agg #[.int .i64 0, .int .i64 0, .int .i64 0, .int .i64 0]) 32 Try.underlying32 hi0 hz0 hz1 hz2 rfl (by decide) (by decide) encX_len ⟨q0, y, q1 - 1, y⟩ (encX_one _) rfl _ _ rfl hown7 (fun j hj => hj.elim) rfl rfl (by omega) (by omega) ?_; intro v8 w8 hown8 hg8 hloc8))
              have hg07 : wr.grownBy w7 (some B) := (grown_below kbl).trans hg7
              have hol7 := hol_map hol hg07
              have hol8 := hol_step hol7 hg8 hloc8
              have hne8 : some B ≠ (Value.slice (some ⟨g, 0, none⟩) L.length cap).ownBlock := fun e => by
                rcases hnb with h | h
                · rw [h] at e; cases e
                · exact h e.symm
              have hM8 := hM7.kept hg8 hne8
              have hbw7 := hbw.grown hg07 hbs (fun j hj => by injection hj with hj; omega)
              have hbw8 := hbw7.grown hg8 (Nat.le_trans hbs hg07.size) (fun j hj => Nat.le_trans hB5 (hown7.lt hj).1)
              clear hown7 hM7 hg7 hg8 hol7 hol hbw7
              go_roundw
              case rel => exact ⟨k + 1, N + 1, setR f (q0, q1) L.length, by omega, by go_num, by rw [HF.out, HQ.out, HAD.out]; exact hown8.1, hol8, hM8, by omega, by rw [HF.out, HQ.out]; exact HI.out, hbw8⟩
              case measure => simp [intOf]; omega
        · obtain rfl : k = rs.length := by omega
          rw [List.take_length, ← HTO0.out] at hown hI
          rw [List.drop_length] at hI
          go_wp2
          go_roundw
          case rel => exact ⟨y + 1, N, f, by omega, by go_num, hown, hM, by rw [Nat.succ_mul, HO.out]; omega, by rw [show ((y + 1 : Nat) : Int) - 1 = (y : Int) by omega]; exact hI, by rw [← hB]; exact hbw⟩
          case measure => simp [intOf]; omega
    · obtain rfl : y = Hm := by omega
      have hfin : bxTo a b y = bxR a b := by unfold bxR bxL; rw [if_pos HE.out, HEH.out]; simp
      rw [hfin] at hown
      obtain ⟨A, c, rfl⟩ := Own.slice hown
      have kk := kw5.trans (hbw.mono kw5.size)
      clear hfin
      go_wp2
      go_ret2
      exact ⟨.slice A (bxR a b).length c, by rw [HE.out]; rfl, ⟨A, c, rfl, Own.rd encX_len hown⟩, kk⟩
end Go.Proofs
