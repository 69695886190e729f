/- few, pt and hill. -/
import Derived.Test.YtcfhhkdjdpkjpaaXJ7
import Derived.Test.YtcfhhkdjdpkjpaaXI3
import Derived.Test.YtcfhhkdjdpkjpaaXJ12
import Derived.Test.YtcfhhkdjdpkjpaaXJ14
set_option linter.unusedVariables false
set_option linter.unusedSimpArgs false
namespace Go.Proofs
open Go.RowKit Go.Proofs.Mp Go.Lib

def fewB (t : Ht) : Bool := decide (t.w ≤ 12) && decide (t.h ≤ 12) && decide ((t.v.length : Int) ≤ 200)
theorem fewB_no {t : Ht} (h : ¬ (t.w ≤ 12 ∧ t.h ≤ 12 ∧ (t.v.length : Int) ≤ 200)) : fewB t = false := by
  unfold fewB
  rw [← Bool.not_eq_true]
  simp only [Bool.and_eq_true, decide_eq_true_eq]
  omega
theorem law_few (t : Ht) (w : World) (hmax : t.v.length ≤ 9223372036854775807) : Calls Try.prog 10 #[aggH t] w (RetV w (.bool (fewB t))) := by
  have hb0 : Below w.heap.size w (w.alloc (.cells (celH t) 26)) := bw1 _ _
  have hrow0 := RowH.new w t
  obtain ⟨x, y, tw, th, st, A, cc, v⟩ := t
  obtain ⟨r0, r1, r2, r3, r4, r5⟩ := hrow0.cells
  unfold aggH celH at *
  dsimp only at *
  clear hrow0
  by_cases h1 : tw ≤ 12
  rotate_left
  · have HF := Lib.hid (fewB_no (t := ⟨x, y, tw, th, st, A, cc, v⟩) (by dsimp only; omega))
    generalize fewB ⟨x, y, tw, th, st, A, cc, v⟩ = z at *
    go_enter Try.func10, Try.ntmps10
    go_upto_region 1 with fail
    generalize (w.alloc (.cells #[.int .i64 x, .int .i64 y, .int .i64 tw, .int .i64 th, .int .i64 st, .slice A v.length cc] 26)) = w0 at *
    go_wp2
    go_ret
    exact RetV.bool HF.out.symm hb0
  by_cases h2 : th ≤ 12
  rotate_left
  · have HF := Lib.hid (fewB_no (t := ⟨x, y, tw, th, st, A, cc, v⟩) (by dsimp only; omega))
    generalize fewB ⟨x, y, tw, th, st, A, cc, v⟩ = z at *
    go_enter Try.func10, Try.ntmps10
    go_upto_region 1 with fail
    generalize (w.alloc (.cells #[.int .i64 x, .int .i64 y, .int .i64 tw, .int .i64 th, .int .i64 st, .slice A v.length cc] 26)) = w0 at *
    go_wp2
    go_ret
    exact RetV.bool HF.out.symm hb0
  have HF := Lib.hid (show fewB ⟨x, y, tw, th, st, A, cc, v⟩ = decide ((v.length : Int) ≤ 200) from by
    unfold fewB
    dsimp only
    rw [decide_eq_true h1, decide_eq_true h2]
    rfl)
  generalize fewB ⟨x, y, tw, th, st, A, cc, v⟩ = z at *
  go_enter Try.func10, Try.ntmps10
  go_upto_region 1 with fail
  generalize (w.alloc (.cells #[.int .i64 x, .int .i64 y, .int .i64 tw, .int .i64 th, .int .i64 st, .slice A v.length cc] 26)) = w0 at *
  go_wp2
  go_ret
  exact RetV.bool HF.out.symm hb0
theorem law_pt (x y : Int) (w : World) : Calls Try.prog 25 #[.int .i64 x, .int .i64 y] w (RetV w (.agg #[.int .i64 x, .int .i64 y])) := by
  go_enter Try.func25, Try.ntmps25
  go_wp2_with fail
  refine bodyPost_ret (v := .agg #[.int .i64 x, .int .i64 y]) ?_ rfl ?_
  · simp [results, Try.results25, go_sem]
  · exact ⟨rfl, (Below.refl _ _).alloc (Nat.le_refl _) _⟩
def hillV : List Int := [0, 0, 0, 0, 10, 0, 0, 0, 0]
def hillT (A : Option Addr) : Ht := ⟨0, 0, 3, 3, 10, A, 9, hillV⟩
def slopeT (A : Option Addr) : Ht := ⟨0, 0, 2, 2, 10, A, 4, [0, 10, 0, 10]⟩
theorem lit_rdI (W : World) (cs : Array Value) (t : TypeId) (zs : List Int) (h : cs = (zs.flatMap Mp.encI).toArray) (n : Nat) (hn : n = W.heap.size) : RdI (W.alloc (.cells cs t)) (some ⟨n, 0, none⟩) zs := by
  subst h; subst hn
  exact Row.rd (enc := Mp.encI) (fun _ => rfl) (t := t) (heap_alloc_new W _)
theorem law_hill (w : World) : Calls Try.prog 26 #[] w (fun e w' => ∃ A, e = .returned (aggH (hillT A)) ∧ RdI w' A hillV ∧ Below w.heap.size w w') := by
  go_enter Try.func26, Try.ntmps26
  go_wp2_with fail
  refine bodyPost_ret (v := aggH (hillT (some ⟨w.heap.size + 1, 0, none⟩))) ?_ rfl ?_
  · simp [results, Try.results26, go_sem, aggH, celH, hillT, hillV]
  · exact ⟨_, rfl, lit_rdI (w.alloc _) _ 3 hillV rfl _ (by simp), ((Below.refl _ _).alloc (Nat.le_refl _) _).alloc (by simp) _⟩
/-- a literal list of one line -/
theorem lit_ln (W : World) (lv : Int) (pts : List Pt) (cs : Array Value) (h : cs = (pts.flatMap encR).toArray) (n m len cap : Nat) (hn : n = W.heap.size) (hm : m = W.heap.size + 1) (hlen : len = pts.length) :
    LnD ((W.alloc (.cells cs 23)).alloc (.cells #[.int .i64 lv, .slice (some ⟨n, 0, none⟩) len cap] 41)) (.slice (some ⟨m, 0, none⟩) 1 1) [(lv, pts)] := by
  subst hlen
  have h1 := lit_rdAt W cs 23 pts h n hn
  have hs : (W.alloc (.cells cs 23)).heap.size = W.heap.size + 1 := by simp
  refine ⟨some ⟨m, 0, none⟩, 1, [(lv, .slice (some ⟨n, 0, none⟩) pts.length cap)], rfl, rfl, ?_, fun i hi => ?_⟩
  · have := Row.rd (xs := [(lv, Value.slice (some ⟨n, 0, none⟩) pts.length cap)]) encLn_len (t := 41) (heap_alloc_new (W.alloc (.cells cs 23)) (.cells ([(lv, Value.slice (some ⟨n, 0, none⟩) pts.length cap)].flatMap encLn).toArray 41))
    rw [hs, ← hm] at this
    exact this
  · obtain rfl : i = 0 := by simpa using hi
    exact ⟨n, cap, rfl, trivial, by simp; omega, (show Rd 2 encR _ _ _ from h1).below (bw1 _ _)⟩
theorem linesT_ac (x y tw th st : Int) (A A' : Option Addr) (c c' : Nat) (v : List Int) (lv : Int) : linesT ⟨x, y, tw, th, st, A, c, v⟩ lv = linesT ⟨x, y, tw, th, st, A', c', v⟩ lv := rfl
theorem chkH_ac (x y tw th st : Int) (A A' : Option Addr) (c c' : Nat) (v : List Int) : chkH ⟨x, y, tw, th, st, A, c, v⟩ = chkH ⟨x, y, tw, th, st, A', c', v⟩ := rfl
def l5 : List Ln := [(5, [(5, 5), (10, 5), (15, 10), (15, 15), (10, 15), (5, 10), (5, 5)])]
def k5 : List Ln := [(5, [(5, 10), (5, 5), (5, 0)])]
def m5 : List Ln := [(10, [(10, 10), (10, 0)])]
theorem exL (A : Option Addr) : chkH (hillT A) = 0 ∧ chkH (slopeT A) = 0 := ⟨rfl, rfl⟩
theorem ex1 (A : Option Addr) : linesT (hillT A) 5 = l5 := (linesT_ac 0 0 3 3 10 A none 9 9 hillV 5).trans (by decide +kernel)
theorem ex2 (A : Option Addr) : linesT (slopeT A) 5 = k5 := (linesT_ac 0 0 2 2 10 A none 4 4 _ 5).trans (by decide +kernel)
theorem ex3 (A : Option Addr) : linesT (slopeT A) 10 = m5 := (linesT_ac 0 0 2 2 10 A none 4 4 _ 10).trans (by decide +kernel)
theorem ex5 (A : Option Addr) : linesT (hillT A) 10 = [] := (linesT_ac 0 0 3 3 10 A none 9 9 hillV 10).trans (by decide +kernel)
end Go.Proofs
/- awake. -/
set_option linter.unusedVariables false
set_option linter.unusedSimpArgs false
namespace Go.Proofs
open Go.RowKit Go.Proofs.Mp Go.Lib

theorem allL_ac (x y tw th st : Int) (A A' : Option Addr) (c c' : Nat) (v : List Int) (iv : Int) : allL ⟨x, y, tw, th, st, A, c, v⟩ iv = allL ⟨x, y, tw, th, st, A', c', v⟩ iv := by
  unfold allL allN
  rw [chkH_ac x y tw th st A A' c c' v, show linesT ⟨x, y, tw, th, st, A, c, v⟩ = linesT ⟨x, y, tw, th, st, A', c', v⟩ from funext fun lv => linesT_ac x y tw th st A A' c c' v lv]
theorem ex4 (A : Option Addr) : crossN (hillT A) 10 = 6 := (show crossN (hillT A) 10 = crossN (hillT none) 10 from rfl).trans (by decide +kernel)
theorem ex6 (A : Option Addr) : allL (hillT A) 5 = l5 := (allL_ac 0 0 3 3 10 A none 9 9 hillV 5).trans (by decide +kernel)
theorem ex7 (A : Option Addr) : allL (hillT A) 0 = [] := (allL_ac 0 0 3 3 10 A none 9 9 hillV 0).trans (by decide +kernel)
theorem ex8 (A : Option Addr) : allE (hillT A) 5 = 0 ∧ allE (hillT A) 0 = 2 := ⟨rfl, rfl⟩
theorem hill9 (A : Option Addr) : (hillT A).v.length ≤ 1000 := show (9 : Nat) ≤ 1000 by decide
theorem slope4 (A : Option Addr) : (slopeT A).v.length ≤ 1000 := show (4 : Nat) ≤ 1000 by decide
def pts5 : List Pt := [(5, 5), (10, 5), (15, 10), (15, 15), (10, 15), (5, 10), (5, 5)]
theorem ex9 : insV pts5 (10, 10) = 1 ∧ insV pts5 (9, 6) = 1 ∧ insV pts5 (10, 5) = 0 ∧ insV pts5 (6, 14) = -1 := by decide +kernel
def RetL (w : World) (L : List Ln) (n : Nat) (z : Int) (e : Ending) (w' : World) : Prop := ∃ A c, e = .returned (.tuple #[.slice A n c, .int .i64 z]) ∧ LnD w' (.slice A n c) L ∧ Below w.heap.size w w'
theorem RetLE.lit {w w' : World} {L : List Ln} {n : Nat} {z : Int} {e : Ending} (hn : L.length = n) (h : RetLE w L z e w') : RetL w L n z e w' := by
  obtain ⟨v, rfl, hL, hb⟩ := h
  obtain ⟨A, c, rfl⟩ := hL.len
  subst hn
  exact ⟨A, c, rfl, hL.read, hb⟩
section
variable {t : Ht} {L : List Ln} {n : Nat} {w : World}
theorem c_lines {lv : Int} (h : linesT t lv = L) (hc : chkH t = 0) (hn : L.length = n) (hl : t.v.length ≤ 1000) (hR : RdI w t.a t.v) : Calls Try.prog 14 #[aggH t, .int .i64 lv] w (RetL w L n 0) := by
  have := con_Lines t lv w (by omega) hR
  rw [h, hc] at this
  exact this.mono fun e w' h => h.lit hn
theorem c_all {iv z : Int} (h : allL t iv = L) (hz : allE t iv = z) (hn : L.length = n) (hl : t.v.length ≤ 1000) (hR : RdI w t.a t.v) : Calls Try.prog 18 #[aggH t, .int .i64 iv] w (RetL w L n z) := by
  have := con_All t iv w (by omega) hR
  rw [h, hz] at this
  exact this.mono fun e w' h => h.lit hn
theorem c_crossed {lv : Int} {k : Int} (h : crossN t lv = k) (hc : chkH t = 0) (hl : t.v.length ≤ 1000) (hR : RdI w t.a t.v) : Calls Try.prog 12 #[aggH t, .int .i64 lv] w (RetV w (.tuple #[.int .i64 k, .int .i64 0])) := by
  have := con_Crossed t lv w (by omega) hR
  rw [h, hc] at this
  exact this
end
def smallL (L : List Ln) : Bool := decide (L.length ≤ 1000000000) && L.all fun l => decide (l.2.length ≤ 1000000000)
theorem smallL_iff {L : List Ln} (h : smallL L = true) : L.length ≤ 1000000000 ∧ ∀ l ∈ L, l.2.length ≤ 1000000000 := by
  unfold smallL at h
  rw [Bool.and_eq_true, decide_eq_true_eq, List.all_eq_true] at h
  exact ⟨h.1, fun l hl => by have := h.2 l hl; rwa [decide_eq_true_eq] at this⟩
theorem c_same {L K : List Ln} {v1 v2 : Value} {w : World} {z : Bool} (h : decide (L = K) = z) (s1 : smallL L = true) (s2 : smallL K = true) (h1 : LnD w v1 L) (h2 : LnD w v2 K) : Calls Try.prog 16 #[v1, v2] w (RetV w (.bool z)) := by
  have := ref_same L K v1 v2 w h1 h2 (smallL_iff s1).1 (smallL_iff s1).2 (smallL_iff s2).1 (smallL_iff s2).2
  rw [h] at this
  exact this
/-- a list of one line: its cells, and its points -/
theorem LnD.one {w : World} {A : Option Addr} {c : Nat} {lv : Int} {pts : List Pt} (h : LnD w (.slice A 1 c) [(lv, pts)]) : ∃ b off g cap, A = some ⟨b, off, none⟩ ∧
    ∀ W', Below w.heap.size w W' → W'.cell? ⟨b, off, none⟩ = some (.int .i64 lv) ∧ W'.cell? ⟨b, off + 1, none⟩ = some (.slice (some ⟨g, 0, none⟩) pts.length cap) ∧ Rd 2 encR W' (some ⟨g, 0, none⟩) pts := by
  obtain ⟨A', c', vs, e, hl, hR, hA⟩ := h
  injection e with e1 e2 e3
  subst e1 e3
  clear e2
  obtain ⟨g, cap, ev, _, hg, hp⟩ := hA 0 (by rw [hl]; exact Nat.one_pos)
  match vs, hl with
  | [y], _ =>
    obtain rfl : y = (lv, .slice (some ⟨g, 0, none⟩) pts.length cap) := ev
    obtain ⟨b, off, rfl, hb, hc⟩ := Rd.at_ hR (j := 0) Nat.one_pos
    refine ⟨b, off, g, cap, rfl, fun W' hW => ?_⟩
    have c1 := hc 0 Nat.one_pos 0 (.int .i64 lv) rfl
    have c2 := hc 0 Nat.one_pos 1 (.slice (some ⟨g, 0, none⟩) pts.length cap) rfl
    exact ⟨(hW.cell (p := ⟨b, off, none⟩) hb).trans c1, (hW.cell (p := ⟨b, off + 1, none⟩) hb).trans c2, hp.below hW⟩
theorem below_lit2 {X w1 : World} {o o' : Obj} (hb : Below ((X.alloc o).alloc o').heap.size ((X.alloc o).alloc o') w1) : Below X.heap.size X w1 := below_lit (below_lit hb)
theorem bw2' (w : World) (o1 o2 : Obj) : Below w.heap.size w ((w.alloc o1).alloc o2) := (bw1 w o1).trans ((bw1 _ _).mono (bw1 w o1).size)

set_option maxRecDepth 100000 in
set_option maxHeartbeats 8000000 in
theorem law_awake (w : World) : Calls Try.prog 11 #[] w (RetV w (.bool true)) := by
  have HB0 := Lib.hid (bw2' w (.cells #[.int .i64 0, .int .i64 10, .int .i64 0, .int .i64 10] 3) (.cells #[.int .i64 0, .int .i64 0, .int .i64 2, .int .i64 2, .int .i64 10, .slice (some ⟨w.heap.size, 0, none⟩) 4 4] 26))
  have HS0 := Lib.hid (show RowH ((w.alloc (.cells #[.int .i64 0, .int .i64 10, .int .i64 0, .int .i64 10] 3)).alloc (.cells #[.int .i64 0, .int .i64 0, .int .i64 2, .int .i64 2, .int .i64 10, .slice (some ⟨w.heap.size, 0, none⟩) 4 4] 26)) (w.heap.size + 1) (slopeT (some ⟨w.heap.size, 0, none⟩)) ∧ RdI ((w.alloc (.cells #[.int .i64 0, .int .i64 10, .int .i64 0, .int .i64 10] 3)).alloc (.cells #[.int .i64 0, .int .i64 0, .int .i64 2, .int .i64 2, .int .i64 10, .slice (some ⟨w.heap.size, 0, none⟩) 4 4] 26)) (some ⟨w.heap.size, 0, none⟩) [0, 10, 0, 10] from by
    refine ⟨?_, ?_⟩
    · have := RowH.new (w.alloc (.cells #[.int .i64 0, .int .i64 10, .int .i64 0, .int .i64 10] 3)) (slopeT (some ⟨w.heap.size, 0, none⟩))
      rw [show (w.alloc (.cells #[.int .i64 0, .int .i64 10, .int .i64 0, .int .i64 10] 3)).heap.size = w.heap.size + 1 by simp] at this
      exact this
    · exact (lit_rdI w #[.int .i64 0, .int .i64 10, .int .i64 0, .int .i64 10] 3 [0, 10, 0, 10] rfl _ rfl).below (bw1 _ _))
  have HSl := Lib.hid fun (W' : World) (hb : Below ((w.alloc (.cells #[.int .i64 0, .int .i64 10, .int .i64 0, .int .i64 10] 3)).alloc (.cells #[.int .i64 0, .int .i64 0, .int .i64 2, .int .i64 2, .int .i64 10, .slice (some ⟨w.heap.size, 0, none⟩) 4 4] 26)).heap.size ((w.alloc (.cells #[.int .i64 0, .int .i64 10, .int .i64 0, .int .i64 10] 3)).alloc (.cells #[.int .i64 0, .int .i64 0, .int .i64 2, .int .i64 2, .int .i64 10, .slice (some ⟨w.heap.size, 0, none⟩) 4 4] 26)) W') => (show RowH W' (w.heap.size + 1) (slopeT (some ⟨w.heap.size, 0, none⟩)) ∧ RdI W' (some ⟨w.heap.size, 0, none⟩) [0, 10, 0, 10] from ⟨HS0.out.1.below hb, HS0.out.2.below hb⟩)
  clear HS0
  go_enter Try.func11, Try.ntmps11
  go_upto_region 2 with fail
  generalize ((w.alloc (.cells #[.int .i64 0, .int .i64 10, .int .i64 0, .int .i64 10] 3)).alloc (.cells #[.int .i64 0, .int .i64 0, .int .i64 2, .int .i64 2, .int .i64 10, .slice (some ⟨w.heap.size, 0, none⟩) 4 4] 26)) = w0 at *
  generalize hgs : w.heap.size + 1 = gs at HSl ⊢
  clear hgs
  have k : Below w0.heap.size w0 w0 := Below.refl _ _
  go_wp2_with fail
  refine (law_hill w0).mono ?_
  rintro e w1 ⟨Ah1, rfl, hH, hb⟩
  replace k := k.trans (hb.mono k.size)
  clear hb
  go_wp2_with fail
  refine (c_lines (ex1 _) (exL _).1 rfl (hill9 _) hH).mono ?_
  rintro e w2 ⟨Al, cl, rfl, hl, hb⟩
  try clear hH
  replace k := k.trans (hb.mono k.size)
  clear hb
  obtain ⟨r0, r1, r2, r3, r4, r5⟩ := (HSl.out _ k).1.cells
  dsimp only [slopeT] at r0 r1 r2 r3 r4 r5
  go_wp2_with fail
  refine (c_lines (t := slopeT _) (ex2 _) (exL _).2 rfl (slope4 _) (HSl.out _ k).2).mono ?_
  rintro e w3 ⟨Ak5, ck5, rfl, hk5, hb⟩
  try clear hH
  replace hl := hl.below hb
  replace k := k.trans (hb.mono k.size)
  clear hb
  clear r0 r1 r2 r3 r4 r5
  obtain ⟨r0, r1, r2, r3, r4, r5⟩ := (HSl.out _ k).1.cells
  dsimp only [slopeT] at r0 r1 r2 r3 r4 r5
  go_wp2_with fail
  refine (c_lines (t := slopeT _) (ex3 _) (exL _).2 rfl (slope4 _) (HSl.out _ k).2).mono ?_
  rintro e w4 ⟨Am5, cm5, rfl, hm5, hb⟩
  try clear hH
  replace hl := hl.below hb
  replace hk5 := hk5.below hb
  replace k := k.trans (hb.mono k.size)
  clear hb
  clear r0 r1 r2 r3 r4 r5 HSl
  go_wp2_with fail
  refine (law_hill w4).mono ?_
  rintro e w5 ⟨Ah5, rfl, hH, hb⟩
  replace hl := hl.below hb
  replace hk5 := hk5.below hb
  replace hm5 := hm5.below hb
  replace k := k.trans (hb.mono k.size)
  clear hb
  go_wp2_with fail
  refine (c_crossed (ex4 _) (exL _).1 (hill9 _) hH).mono ?_
  rintro e w6 ⟨rfl, hb⟩
  clear hH
  replace hl := hl.below hb
  replace hk5 := hk5.below hb
  replace hm5 := hm5.below hb
  replace k := k.trans (hb.mono k.size)
  clear hb
  go_wp2_with fail
  refine (law_hill w6).mono ?_
  rintro e w7 ⟨Ah7, rfl, hH, hb⟩
  replace hl := hl.below hb
  replace hk5 := hk5.below hb
  replace hm5 := hm5.below hb
  replace k := k.trans (hb.mono k.size)
  clear hb
  go_wp2_with fail
  refine (c_lines (ex5 _) (exL _).1 rfl (hill9 _) hH).mono ?_
  rintro e w8 ⟨An5, cn5, rfl, hn5, hb⟩
  try clear hH
  replace hl := hl.below hb
  replace hk5 := hk5.below hb
  replace hm5 := hm5.below hb
  replace k := k.trans (hb.mono k.size)
  clear hb
  clear hn5
  go_wp2_with fail
  refine (law_hill w8).mono ?_
  rintro e w9 ⟨Ah9, rfl, hH, hb⟩
  replace hl := hl.below hb
  replace hk5 := hk5.below hb
  replace hm5 := hm5.below hb
  replace k := k.trans (hb.mono k.size)
  clear hb
  go_wp2_with fail
  refine (c_all (ex6 _) (ex8 _).1 rfl (hill9 _) hH).mono ?_
  rintro e w10 ⟨Aa5, ca5, rfl, ha5, hb⟩
  try clear hH
  replace hl := hl.below hb
  replace hk5 := hk5.below hb
  replace hm5 := hm5.below hb
  replace k := k.trans (hb.mono k.size)
  clear hb
  go_wp2_with fail
  refine (law_hill w10).mono ?_
  rintro e w11 ⟨Ah11, rfl, hH, hb⟩
  replace hl := hl.below hb
  replace hk5 := hk5.below hb
  replace hm5 := hm5.below hb
  replace ha5 := ha5.below hb
  replace k := k.trans (hb.mono k.size)
  clear hb
  go_wp2_with fail
  refine (c_all (ex7 _) (ex8 _).2 rfl (hill9 _) hH).mono ?_
  rintro e w12 ⟨Az5, cz5, rfl, hz5, hb⟩
  try clear hH
  replace hl := hl.below hb
  replace hk5 := hk5.below hb
  replace hm5 := hm5.below hb
  replace ha5 := ha5.below hb
  replace k := k.trans (hb.mono k.size)
  clear hb
  clear hz5
  go_wp2_with fail
  refine (c_same (z := true) rfl rfl rfl ha5 hl).mono ?_
  rintro e w13 ⟨rfl, hb⟩
  clear ha5
  replace hl := hl.below hb
  replace hk5 := hk5.below hb
  replace hm5 := hm5.below hb
  replace k := k.trans (hb.mono k.size)
  clear hb
  go_wp2_with fail
  refine (law_pt 5 5 _).mono ?_
  rintro e w14 ⟨rfl, hb⟩
  replace hl := hl.below hb
  replace hk5 := hk5.below hb
  replace hm5 := hm5.below hb
  replace k := k.trans (hb.mono k.size)
  clear hb
  go_wp2_with fail
  refine (law_pt 10 5 _).mono ?_
  rintro e w15 ⟨rfl, hb⟩
  replace hl := hl.below hb
  replace hk5 := hk5.below hb
  replace hm5 := hm5.below hb
  replace k := k.trans (hb.mono k.size)
  clear hb
  go_wp2_with fail
  refine (law_pt 15 10 _).mono ?_
  rintro e w16 ⟨rfl, hb⟩
  replace hl := hl.below hb
  replace hk5 := hk5.below hb
  replace hm5 := hm5.below hb
  replace k := k.trans (hb.mono k.size)
  clear hb
  go_wp2_with fail
  refine (law_pt 15 15 _).mono ?_
  rintro e w17 ⟨rfl, hb⟩
  replace hl := hl.below hb
  replace hk5 := hk5.below hb
  replace hm5 := hm5.below hb
  replace k := k.trans (hb.mono k.size)
  clear hb
  go_wp2_with fail
  refine (law_pt 10 15 _).mono ?_
  rintro e w18 ⟨rfl, hb⟩
  replace hl := hl.below hb
  replace hk5 := hk5.below hb
  replace hm5 := hm5.below hb
  replace k := k.trans (hb.mono k.size)
  clear hb
  go_wp2_with fail
  refine (law_pt 5 10 _).mono ?_
  rintro e w19 ⟨rfl, hb⟩
  replace hl := hl.below hb
  replace hk5 := hk5.below hb
  replace hm5 := hm5.below hb
  replace k := k.trans (hb.mono k.size)
  clear hb
  go_wp2_with fail
  refine (law_pt 5 5 _).mono ?_
  rintro e w20 ⟨rfl, hb⟩
  replace hl := hl.below hb
  replace hk5 := hk5.below hb
  replace hm5 := hm5.below hb
  replace k := k.trans (hb.mono k.size)
  clear hb
  go_wp2_with fail
  refine (c_same (z := true) (K := [(5, [(5, 5), (10, 5), (15, 10), (15, 15), (10, 15), (5, 10), (5, 5)])]) rfl rfl rfl (hl.below (bw2' w20 _ _)) (lit_ln w20 5 [(5, 5), (10, 5), (15, 10), (15, 15), (10, 15), (5, 10), (5, 5)] _ rfl _ _ _ 7 rfl rfl rfl)).mono ?_
  rintro e w21 ⟨rfl, hb⟩
  replace hb := below_lit2 hb
  replace hl := hl.below hb
  replace hk5 := hk5.below hb
  replace hm5 := hm5.below hb
  replace k := k.trans (hb.mono k.size)
  clear hb
  go_wp2_with fail
  refine (law_pt 5 10 _).mono ?_
  rintro e w22 ⟨rfl, hb⟩
  replace hl := hl.below hb
  replace hk5 := hk5.below hb
  replace hm5 := hm5.below hb
  replace k := k.trans (hb.mono k.size)
  clear hb
  go_wp2_with fail
  refine (law_pt 5 5 _).mono ?_
  rintro e w23 ⟨rfl, hb⟩
  replace hl := hl.below hb
  replace hk5 := hk5.below hb
  replace hm5 := hm5.below hb
  replace k := k.trans (hb.mono k.size)
  clear hb
  go_wp2_with fail
  refine (law_pt 5 0 _).mono ?_
  rintro e w24 ⟨rfl, hb⟩
  replace hl := hl.below hb
  replace hk5 := hk5.below hb
  replace hm5 := hm5.below hb
  replace k := k.trans (hb.mono k.size)
  clear hb
  go_wp2_with fail
  refine (c_same (z := true) (K := [(5, [(5, 10), (5, 5), (5, 0)])]) rfl rfl rfl (hk5.below (bw2' w24 _ _)) (lit_ln w24 5 [(5, 10), (5, 5), (5, 0)] _ rfl _ _ _ 3 rfl rfl rfl)).mono ?_
  rintro e w25 ⟨rfl, hb⟩
  replace hb := below_lit2 hb
  clear hk5
  replace hl := hl.below hb
  replace hm5 := hm5.below hb
  replace k := k.trans (hb.mono k.size)
  clear hb
  go_wp2_with fail
  refine (law_pt 10 10 _).mono ?_
  rintro e w26 ⟨rfl, hb⟩
  replace hl := hl.below hb
  replace hm5 := hm5.below hb
  replace k := k.trans (hb.mono k.size)
  clear hb
  go_wp2_with fail
  refine (law_pt 10 0 _).mono ?_
  rintro e w27 ⟨rfl, hb⟩
  replace hl := hl.below hb
  replace hm5 := hm5.below hb
  replace k := k.trans (hb.mono k.size)
  clear hb
  go_wp2_with fail
  refine (c_same (z := true) (K := [(10, [(10, 10), (10, 0)])]) rfl rfl rfl (hm5.below (bw2' w27 _ _)) (lit_ln w27 10 [(10, 10), (10, 0)] _ rfl _ _ _ 2 rfl rfl rfl)).mono ?_
  rintro e w28 ⟨rfl, hb⟩
  replace hb := below_lit2 hb
  clear hm5
  replace hl := hl.below hb
  replace k := k.trans (hb.mono k.size)
  clear hb
  go_upto_region 13 with fail
  obtain ⟨b, off, g, cap, rfl, hone⟩ := LnD.one (pts := pts5) (show LnD _ _ [(5, pts5)] from hl)
  have HO := Lib.hid hone
  clear hone hl
  have HI := Lib.hid fun (q : Pt) (z : Int) (hz : insV pts5 q = z) (W' : World) (hb : Below w28.heap.size w28 W') => (show Calls Try.prog 19 #[.agg #[.int .i64 5, .slice (some ⟨g, 0, none⟩) 7 cap], aggP q] W' (RetV W' (.int .i64 z)) from hz ▸ con_Inside 5 pts5 q (some ⟨g, 0, none⟩) cap W' (HO.out W' hb).2.2 (by decide))
  have E1 := Lib.hid ex9.1
  have E2 := Lib.hid ex9.2.1
  have E3 := Lib.hid ex9.2.2.1
  have E4 := Lib.hid ex9.2.2.2
  have kz := Lib.hid (HB0.out.trans (k.mono HB0.out.size))
  clear k HB0
  generalize w28 = wz at *
  have hS0 : (fun W' : World => Below wz.heap.size wz W') wz.drew := (Below.refl _ _).drew
  refine wp_region_held_drew (S := (fun W' : World => Below wz.heap.size wz W')) (by kernel_rfl) hS0 (fun hHeld => ?_)
  clear hHeld
  generalize wz.drew = wy at *
  refine wpAnyH_take (i := 0) (oi := ⟨some 133, _, _, _, _, _⟩) (v := ?vra1) rfl (by kernel_rfl) (by kernel_rfl) (by kernel_rfl) (fun _ _ _ h => h) (Or.inl ⟨by kernel_rfl, ?hyra1⟩) (by assumption) ?restra1
  case hyra1 => (intro W hSw; (try dsimp only at hSw); go_simp; try with_reducible rfl)
  case' restra1 => try simp only [Act.put, List.setIfInBounds_toArray, List.set_cons_zero, List.set_cons_succ]
  refine wpAnyH_take (i := 1) (oi := ⟨some 134, _, _, _, _, _⟩) (v := ?vra2) rfl (by kernel_rfl) (by kernel_rfl) (by kernel_rfl) (fun _ _ _ h => h) (Or.inl ⟨by kernel_rfl, ?hyra2⟩) (by assumption) ?restra2
  case hyra2 => (intro W hSw; (try dsimp only at hSw); go_simp; try with_reducible rfl)
  case' restra2 => try simp only [Act.put, List.setIfInBounds_toArray, List.set_cons_zero, List.set_cons_succ]
  refine wpAnyH_take (i := 2) (oi := ⟨some 135, _, _, _, _, _⟩) (v := ?vra3) rfl (by kernel_rfl) (by kernel_rfl) (by kernel_rfl) (fun _ _ _ h => h) (Or.inl ⟨by kernel_rfl, ?hyra3⟩) (by assumption) ?restra3
  case hyra3 => (intro W hSw; obtain ⟨d1, d2, _⟩ := HO.out W hSw; clear hSw; (try dsimp only at hSw); go_simp; try with_reducible rfl)
  case' restra3 => try simp only [Act.put, List.setIfInBounds_toArray, List.set_cons_zero, List.set_cons_succ]
  refine wpAnyH_ready (rs := [3]) (by kernel_rfl) (by simp) ?_
  refine AllReadyH.cons (o := ⟨some 136, _, _, _, _, _⟩) rfl (fun K hK => ?_) AllReadyH.nil
  go_simp
  go_at_call 25
  refine (law_pt 10 10 _).mono ?_
  rintro e Wra1 ⟨rfl, hbWra1⟩
  have hSWra1 := hS0.trans (hbWra1.mono hS0.size)
  try clear hS0
  clear hbWra1
  go_wp2_with fail
  refine hK.out _ _ hSWra1 (fun hHeld => ?_)
  clear hK hHeld K
  try simp only [Act.put, List.setIfInBounds_toArray, List.set_cons_zero, List.set_cons_succ]
  refine wpAnyH_ready (rs := [4]) (by kernel_rfl) (by simp) ?_
  refine AllReadyH.cons (o := ⟨some 137, _, _, _, _, _⟩) rfl (fun K hK => ?_) AllReadyH.nil
  go_simp
  go_at_call 19
  refine (HI.out (10, 10) _ E1.out _ hSWra1).mono ?_
  rintro e Wra2 ⟨rfl, hbWra2⟩
  have hSWra2 := hSWra1.trans (hbWra2.mono hSWra1.size)
  try clear hSWra1
  clear hbWra2
  go_wp2_with fail
  refine hK.out _ _ hSWra2 (fun hHeld => ?_)
  clear hK hHeld K
  try simp only [Act.put, List.setIfInBounds_toArray, List.set_cons_zero, List.set_cons_succ]
  refine wpAnyH_take (i := 5) (oi := ⟨some 138, _, _, _, _, _⟩) (v := ?vra4) rfl (by kernel_rfl) (by kernel_rfl) (by kernel_rfl) (fun _ _ _ h => h) (Or.inl ⟨by kernel_rfl, ?hyra4⟩) (by assumption) ?restra4
  case hyra4 => (intro W hSw; (try dsimp only at hSw); go_simp; try with_reducible rfl)
  case' restra4 => try simp only [Act.put, List.setIfInBounds_toArray, List.set_cons_zero, List.set_cons_succ]
  refine wpAnyH_take (i := 6) (oi := ⟨some 139, _, _, _, _, _⟩) (v := ?vra5) rfl (by kernel_rfl) (by kernel_rfl) (by kernel_rfl) (fun _ _ _ h => h) (Or.inl ⟨by kernel_rfl, ?hyra5⟩) (by assumption) ?restra5
  case hyra5 => (intro W hSw; (try dsimp only at hSw); go_simp; try with_reducible rfl)
  case' restra5 => try simp only [Act.put, List.setIfInBounds_toArray, List.set_cons_zero, List.set_cons_succ]
  refine wpAnyH_take (i := 7) (oi := ⟨some 140, _, _, _, _, _⟩) (v := ?vra6) rfl (by kernel_rfl) (by kernel_rfl) (by kernel_rfl) (fun _ _ _ h => h) (Or.inl ⟨by kernel_rfl, ?hyra6⟩) (by assumption) ?restra6
  case hyra6 => (intro W hSw; (try dsimp only at hSw); go_simp; try with_reducible rfl)
  case' restra6 => try simp only [Act.put, List.setIfInBounds_toArray, List.set_cons_zero, List.set_cons_succ]
  refine wpAnyH_take (i := 8) (oi := ⟨some 141, _, _, _, _, _⟩) (v := ?vra7) rfl (by kernel_rfl) (by kernel_rfl) (by kernel_rfl) (fun _ _ _ h => h) (Or.inl ⟨by kernel_rfl, ?hyra7⟩) (by assumption) ?restra7
  case hyra7 => (intro W hSw; (try dsimp only at hSw); go_simp; try with_reducible rfl)
  case' restra7 => try simp only [Act.put, List.setIfInBounds_toArray, List.set_cons_zero, List.set_cons_succ]
  refine wpAnyH_take (i := 9) (oi := ⟨some 142, _, _, _, _, _⟩) (v := ?vra8) rfl (by kernel_rfl) (by kernel_rfl) (by kernel_rfl) (fun _ _ _ h => h) (Or.inl ⟨by kernel_rfl, ?hyra8⟩) (by assumption) ?restra8
  case hyra8 => (intro W hSw; obtain ⟨d1, d2, _⟩ := HO.out W hSw; clear hSw; (try dsimp only at hSw); go_simp; try with_reducible rfl)
  case' restra8 => try simp only [Act.put, List.setIfInBounds_toArray, List.set_cons_zero, List.set_cons_succ]
  refine wpAnyH_ready (rs := [10]) (by kernel_rfl) (by simp) ?_
  refine AllReadyH.cons (o := ⟨some 143, _, _, _, _, _⟩) rfl (fun K hK => ?_) AllReadyH.nil
  go_simp
  go_at_call 25
  refine (law_pt 9 6 _).mono ?_
  rintro e Wra3 ⟨rfl, hbWra3⟩
  have hSWra3 := hSWra2.trans (hbWra3.mono hSWra2.size)
  try clear hSWra2
  clear hbWra3
  go_wp2_with fail
  refine hK.out _ _ hSWra3 (fun hHeld => ?_)
  clear hK hHeld K
  try simp only [Act.put, List.setIfInBounds_toArray, List.set_cons_zero, List.set_cons_succ]
  refine wpAnyH_ready (rs := [11]) (by kernel_rfl) (by simp) ?_
  refine AllReadyH.cons (o := ⟨some 144, _, _, _, _, _⟩) rfl (fun K hK => ?_) AllReadyH.nil
  go_simp
  go_at_call 19
  refine (HI.out (9, 6) _ E2.out _ hSWra3).mono ?_
  rintro e Wra4 ⟨rfl, hbWra4⟩
  have hSWra4 := hSWra3.trans (hbWra4.mono hSWra3.size)
  try clear hSWra3
  clear hbWra4
  go_wp2_with fail
  refine hK.out _ _ hSWra4 (fun hHeld => ?_)
  clear hK hHeld K
  try simp only [Act.put, List.setIfInBounds_toArray, List.set_cons_zero, List.set_cons_succ]
  refine wpAnyH_take (i := 12) (oi := ⟨some 145, _, _, _, _, _⟩) (v := ?vra9) rfl (by kernel_rfl) (by kernel_rfl) (by kernel_rfl) (fun _ _ _ h => h) (Or.inl ⟨by kernel_rfl, ?hyra9⟩) (by assumption) ?restra9
  case hyra9 => (intro W hSw; (try dsimp only at hSw); go_simp; try with_reducible rfl)
  case' restra9 => try simp only [Act.put, List.setIfInBounds_toArray, List.set_cons_zero, List.set_cons_succ]
  refine wpAnyH_take (i := 13) (oi := ⟨some 146, _, _, _, _, _⟩) (v := ?vra10) rfl (by kernel_rfl) (by kernel_rfl) (by kernel_rfl) (fun _ _ _ h => h) (Or.inl ⟨by kernel_rfl, ?hyra10⟩) (by assumption) ?restra10
  case hyra10 => (intro W hSw; (try dsimp only at hSw); go_simp; try with_reducible rfl)
  case' restra10 => try simp only [Act.put, List.setIfInBounds_toArray, List.set_cons_zero, List.set_cons_succ]
  refine wpAnyH_take (i := 14) (oi := ⟨some 147, _, _, _, _, _⟩) (v := ?vra11) rfl (by kernel_rfl) (by kernel_rfl) (by kernel_rfl) (fun _ _ _ h => h) (Or.inl ⟨by kernel_rfl, ?hyra11⟩) (by assumption) ?restra11
  case hyra11 => (intro W hSw; (try dsimp only at hSw); go_simp; try with_reducible rfl)
  case' restra11 => try simp only [Act.put, List.setIfInBounds_toArray, List.set_cons_zero, List.set_cons_succ]
  refine wpAnyH_take (i := 15) (oi := ⟨some 148, _, _, _, _, _⟩) (v := ?vra12) rfl (by kernel_rfl) (by kernel_rfl) (by kernel_rfl) (fun _ _ _ h => h) (Or.inl ⟨by kernel_rfl, ?hyra12⟩) (by assumption) ?restra12
  case hyra12 => (intro W hSw; (try dsimp only at hSw); go_simp; try with_reducible rfl)
  case' restra12 => try simp only [Act.put, List.setIfInBounds_toArray, List.set_cons_zero, List.set_cons_succ]
  refine wpAnyH_take (i := 16) (oi := ⟨some 149, _, _, _, _, _⟩) (v := ?vra13) rfl (by kernel_rfl) (by kernel_rfl) (by kernel_rfl) (fun _ _ _ h => h) (Or.inl ⟨by kernel_rfl, ?hyra13⟩) (by assumption) ?restra13
  case hyra13 => (intro W hSw; (try dsimp only at hSw); go_simp; try with_reducible rfl)
  case' restra13 => try simp only [Act.put, List.setIfInBounds_toArray, List.set_cons_zero, List.set_cons_succ]
  refine wpAnyH_take (i := 17) (oi := ⟨some 150, _, _, _, _, _⟩) (v := ?vra14) rfl (by kernel_rfl) (by kernel_rfl) (by kernel_rfl) (fun _ _ _ h => h) (Or.inl ⟨by kernel_rfl, ?hyra14⟩) (by assumption) ?restra14
  case hyra14 => (intro W hSw; obtain ⟨d1, d2, _⟩ := HO.out W hSw; clear hSw; (try dsimp only at hSw); go_simp; try with_reducible rfl)
  case' restra14 => try simp only [Act.put, List.setIfInBounds_toArray, List.set_cons_zero, List.set_cons_succ]
  refine wpAnyH_ready (rs := [18]) (by kernel_rfl) (by simp) ?_
  refine AllReadyH.cons (o := ⟨some 151, _, _, _, _, _⟩) rfl (fun K hK => ?_) AllReadyH.nil
  go_simp
  go_at_call 25
  refine (law_pt 10 5 _).mono ?_
  rintro e Wra5 ⟨rfl, hbWra5⟩
  have hSWra5 := hSWra4.trans (hbWra5.mono hSWra4.size)
  try clear hSWra4
  clear hbWra5
  go_wp2_with fail
  refine hK.out _ _ hSWra5 (fun hHeld => ?_)
  clear hK hHeld K
  try simp only [Act.put, List.setIfInBounds_toArray, List.set_cons_zero, List.set_cons_succ]
  refine wpAnyH_ready (rs := [19]) (by kernel_rfl) (by simp) ?_
  refine AllReadyH.cons (o := ⟨some 152, _, _, _, _, _⟩) rfl (fun K hK => ?_) AllReadyH.nil
  go_simp
  go_at_call 19
  refine (HI.out (10, 5) _ E3.out _ hSWra5).mono ?_
  rintro e Wra6 ⟨rfl, hbWra6⟩
  have hSWra6 := hSWra5.trans (hbWra6.mono hSWra5.size)
  try clear hSWra5
  clear hbWra6
  go_wp2_with fail
  refine hK.out _ _ hSWra6 (fun hHeld => ?_)
  clear hK hHeld K
  try simp only [Act.put, List.setIfInBounds_toArray, List.set_cons_zero, List.set_cons_succ]
  refine wpAnyH_take (i := 20) (oi := ⟨some 153, _, _, _, _, _⟩) (v := ?vra15) rfl (by kernel_rfl) (by kernel_rfl) (by kernel_rfl) (fun _ _ _ h => h) (Or.inl ⟨by kernel_rfl, ?hyra15⟩) (by assumption) ?restra15
  case hyra15 => (intro W hSw; (try dsimp only at hSw); go_simp; try with_reducible rfl)
  case' restra15 => try simp only [Act.put, List.setIfInBounds_toArray, List.set_cons_zero, List.set_cons_succ]
  refine wpAnyH_take (i := 21) (oi := ⟨some 154, _, _, _, _, _⟩) (v := ?vra16) rfl (by kernel_rfl) (by kernel_rfl) (by kernel_rfl) (fun _ _ _ h => h) (Or.inl ⟨by kernel_rfl, ?hyra16⟩) (by assumption) ?restra16
  case hyra16 => (intro W hSw; (try dsimp only at hSw); go_simp; try with_reducible rfl)
  case' restra16 => try simp only [Act.put, List.setIfInBounds_toArray, List.set_cons_zero, List.set_cons_succ]
  refine wpAnyH_take (i := 22) (oi := ⟨some 155, _, _, _, _, _⟩) (v := ?vra17) rfl (by kernel_rfl) (by kernel_rfl) (by kernel_rfl) (fun _ _ _ h => h) (Or.inl ⟨by kernel_rfl, ?hyra17⟩) (by assumption) ?restra17
  case hyra17 => (intro W hSw; (try dsimp only at hSw); go_simp; try with_reducible rfl)
  case' restra17 => try simp only [Act.put, List.setIfInBounds_toArray, List.set_cons_zero, List.set_cons_succ]
  refine wpAnyH_take (i := 23) (oi := ⟨some 156, _, _, _, _, _⟩) (v := ?vra18) rfl (by kernel_rfl) (by kernel_rfl) (by kernel_rfl) (fun _ _ _ h => h) (Or.inl ⟨by kernel_rfl, ?hyra18⟩) (by assumption) ?restra18
  case hyra18 => (intro W hSw; (try dsimp only at hSw); go_simp; try with_reducible rfl)
  case' restra18 => try simp only [Act.put, List.setIfInBounds_toArray, List.set_cons_zero, List.set_cons_succ]
  refine wpAnyH_take (i := 24) (oi := ⟨some 157, _, _, _, _, _⟩) (v := ?vra19) rfl (by kernel_rfl) (by kernel_rfl) (by kernel_rfl) (fun _ _ _ h => h) (Or.inl ⟨by kernel_rfl, ?hyra19⟩) (by assumption) ?restra19
  case hyra19 => (intro W hSw; (try dsimp only at hSw); go_simp; try with_reducible rfl)
  case' restra19 => try simp only [Act.put, List.setIfInBounds_toArray, List.set_cons_zero, List.set_cons_succ]
  refine wpAnyH_take (i := 25) (oi := ⟨some 158, _, _, _, _, _⟩) (v := ?vra20) rfl (by kernel_rfl) (by kernel_rfl) (by kernel_rfl) (fun _ _ _ h => h) (Or.inl ⟨by kernel_rfl, ?hyra20⟩) (by assumption) ?restra20
  case hyra20 => (intro W hSw; obtain ⟨d1, d2, _⟩ := HO.out W hSw; clear hSw; (try dsimp only at hSw); go_simp; try with_reducible rfl)
  case' restra20 => try simp only [Act.put, List.setIfInBounds_toArray, List.set_cons_zero, List.set_cons_succ]
  refine wpAnyH_ready (rs := [26]) (by kernel_rfl) (by simp) ?_
  refine AllReadyH.cons (o := ⟨some 159, _, _, _, _, _⟩) rfl (fun K hK => ?_) AllReadyH.nil
  go_simp
  go_at_call 25
  refine (law_pt 6 14 _).mono ?_
  rintro e Wra7 ⟨rfl, hbWra7⟩
  have hSWra7 := hSWra6.trans (hbWra7.mono hSWra6.size)
  try clear hSWra6
  clear hbWra7
  go_wp2_with fail
  refine hK.out _ _ hSWra7 (fun hHeld => ?_)
  clear hK hHeld K
  try simp only [Act.put, List.setIfInBounds_toArray, List.set_cons_zero, List.set_cons_succ]
  refine wpAnyH_ready (rs := [27]) (by kernel_rfl) (by simp) ?_
  refine AllReadyH.cons (o := ⟨some 160, _, _, _, _, _⟩) rfl (fun K hK => ?_) AllReadyH.nil
  go_simp
  go_at_call 19
  refine (HI.out (6, 14) _ E4.out _ hSWra7).mono ?_
  rintro e Wra8 ⟨rfl, hbWra8⟩
  have hSWra8 := hSWra7.trans (hbWra8.mono hSWra7.size)
  try clear hSWra7
  clear hbWra8
  go_wp2_with fail
  refine hK.out _ _ hSWra8 (fun hHeld => ?_)
  clear hK hHeld K
  try simp only [Act.put, List.setIfInBounds_toArray, List.set_cons_zero, List.set_cons_succ]
  refine wpAnyH_take (i := 28) (oi := ⟨some 161, _, _, _, _, _⟩) (v := ?vra21) rfl (by kernel_rfl) (by kernel_rfl) (by kernel_rfl) (fun _ _ _ h => h) (Or.inl ⟨by kernel_rfl, ?hyra21⟩) (by assumption) ?restra21
  case hyra21 => (intro W hSw; (try dsimp only at hSw); go_simp; try with_reducible rfl)
  case' restra21 => try simp only [Act.put, List.setIfInBounds_toArray, List.set_cons_zero, List.set_cons_succ]
  refine wpAnyH_take (i := 29) (oi := ⟨some 162, _, _, _, _, _⟩) (v := ?vra22) rfl (by kernel_rfl) (by kernel_rfl) (by kernel_rfl) (fun _ _ _ h => h) (Or.inl ⟨by kernel_rfl, ?hyra22⟩) (by assumption) ?restra22
  case hyra22 => (intro W hSw; (try dsimp only at hSw); go_simp; try with_reducible rfl)
  case' restra22 => try simp only [Act.put, List.setIfInBounds_toArray, List.set_cons_zero, List.set_cons_succ]
  refine wpAnyH_take (i := 30) (oi := ⟨some 0, _, _, _, _, _⟩) (v := ?vra23) rfl (by kernel_rfl) (by kernel_rfl) (by kernel_rfl) (fun _ _ _ h => h) (Or.inl ⟨by kernel_rfl, ?hyra23⟩) (by assumption) ?restra23
  case hyra23 => (intro W hSw; (try dsimp only at hSw); go_simp; try with_reducible rfl)
  case' restra23 => try simp only [Act.put, List.setIfInBounds_toArray, List.set_cons_zero, List.set_cons_succ]
  refine wpAnyH_done (by kernel_rfl) ?_ _
  go_wp2
  go_ret
  exact RetV.bool rfl (kz.out.trans (hSWra8.mono kz.out.size))
end Go.Proofs
/- What the laws on grids share. -/
set_option linter.unusedVariables false
set_option linter.unusedSimpArgs false
namespace Go.Proofs
open Go.RowKit Go.Proofs.Mp Go.Lib

theorem linesT_small (t : Ht) (level : Int) : smallL (linesT t level) = true := by
  have h1 := linesT_len t level
  unfold smallL
  rw [Bool.and_eq_true, decide_eq_true_eq, List.all_eq_true]
  refine ⟨by omega, fun l hl => ?_⟩
  rw [decide_eq_true_eq]
  unfold linesT at hl
  split at hl
  · rename_i h0
    have g := Grd.of h0
    obtain ⟨c, hc, rfl, _⟩ := line_chain hl
    obtain ⟨e, _, rfl⟩ := chain_of hc
    have h2 := chain_len (stepsL (abv t level) t.w.toNat t.h.toNat) e
    have h3 := (steps_small g (abv t level)).1
    have h4 := cmpTo_len ((chain (stepsL (abv t level) t.w.toNat t.h.toNat) e).map (ptE t t.w.toNat level)) ((chain (stepsL (abv t level) t.w.toNat t.h.toNat) e).map (ptE t t.w.toNat level)).length
    rw [cmpTo_all, List.length_map] at h4
    dsimp only
    omega
  · cases hl
theorem few_len {t : Ht} (h : fewB t = true) : t.w ≤ 12 ∧ t.h ≤ 12 ∧ t.v.length ≤ 200 := by
  unfold fewB at h
  simp only [Bool.and_eq_true, decide_eq_true_eq] at h
  omega
section
variable {t : Ht} {w : World}
theorem cl_lines (level : Int) {n : Nat} (hn : (linesT t level).length = n) (hl : t.v.length ≤ 200) (hR : RdI w t.a t.v) : Calls Try.prog 14 #[aggH t, .int .i64 level] w (RetL w (linesT t level) n (chkH t)) :=
  (con_Lines t level w (by omega) hR).mono fun e w' h => h.lit hn
theorem cr_lines (level : Int) {n : Nat} (hn : (linesT t level).length = n) (hl : t.v.length ≤ 200) (hR : RdI w t.a t.v) : Calls Try.prog 15 #[aggH t, .int .i64 level] w (RetL w (linesT t level) n (chkH t)) :=
  (ref_Lines t level w (by omega) hR).mono fun e w' h => h.lit hn
end
end Go.Proofs
