/- Lemmas and walks; no statement of a law is proved here. -/
import Derived.Test.YtaaejdhdkipdlaaXJ4
set_option linter.unusedVariables false
set_option linter.unusedSimpArgs false
namespace Go.Proofs
open Go.RowKit Go.Proofs.Mp Go.Proofs.Uf

def lenOfV : Value → Nat | .slice _ n _ => n | _ => 0
def boolOfV : Value → Nat | .bool true => 1 | _ => 0
theorem own_one (w : World) (f : Int) : OwnI 3 (w.alloc (.cells #[.int .i64 f] 3)) w.heap.size (.slice (some ⟨w.heap.size, 0, none⟩) 1 1) [f] :=
  ⟨rfl, .inr ⟨w.heap.size, 1, #[.int .i64 f], rfl, Nat.le_refl _, heap_alloc_new w _, Nat.le_refl _, by unfold maxLen; omega, rfl, rfl⟩⟩

set_option maxHeartbeats 8000000 in
theorem ref_group (A : Option Addr) (c : Nat) (l : List Cand) (f : Int) (w : World) (hmax : l.length ≤ 1000) (hR : Rd 8 encC w A l) (hf : f ∈ feats l) :
    Calls Try.prog 59 #[.slice A l.length c, .int .i64 f] w (RetRl w none (gS l f)) := by
  have hown0 := own_one w f
  have hbw0 : Below w.heap.size w (w.alloc (.cells #[.int .i64 f] 3)) := (Below.refl _ _).alloc (Nat.le_refl _) _
  have hG0 : GI l f 0 true l.length 0 [f] := ⟨by simp, fun z hz => by simp at hz; subst hz; exact .refl _, by have : remL l [f] ≤ l.length := List.length_filter_le _ _; simp; omega, by simp, .inl rfl⟩
  go_enter Try.func59, Try.ntmps59
  go_wp2_with fail
  go_loopw [5, 6] (fun v g wr => ∃ (out : List Int) (gb : Bool), g = .bool gb ∧ OwnI 3 wr w.heap.size v out ∧ Below w.heap.size w wr ∧ GI l f 0 gb l.length 0 out) (fun v g _ => 2 * (l.length + 1 - lenOfV v) + boolOfV g)
  case atStart => exact ⟨[f], true, rfl, hown0, hbw0, hG0⟩
  case round =>
    clear hown0 hbw0 hG0
    obtain ⟨out0, gb0, rfl, hown, hbw, hG⟩ := hrel
    have hbo0 := hG.bound
    rcases gb0 with _ | _
    · have hmem := hG.done
      have cN := k_rnormal_l (Mp.Own.sl hown) (by omega)
      rw [gS_of hf hmem] at cN
      go_wp2_with fail
      refine cN.mono ?_
      intro e w1 h
      obtain ⟨v, rfl, h2, h3, h4⟩ := h.mono hbw
      go_wp2
      go_ret
      exact ⟨v, rfl, h2, h3, h4⟩
    · obtain ⟨A0, c0', rfl⟩ := Own.slice hown
      have hG1 : GI l f out0.length false 0 0 out0 := ⟨hG.start, hG.conn, hG.bound, by simp, .inr (fun i' m' h => by omega)⟩
      obtain ⟨n0, hn0⟩ : ∃ n, out0.length = n := ⟨_, rfl⟩
      rw [hn0] at hG1 hbo0
      go_wp2_with fail
      go_loopw [5, 6, 7] (fun v g i wr => ∃ (k : Nat) (out : List Int) (gb : Bool), k ≤ l.length ∧ i = .int .i64 k ∧ g = .bool gb ∧ OwnI 3 wr w.heap.size v out ∧ Below w.heap.size w wr ∧ GI l f n0 gb k 0 out) (fun _ _ i _ => l.length - (intOf i).toNat)
      case atStart => exact ⟨0, out0, false, by omega, rfl, rfl, hown, hbw, hG1⟩
      case round =>
        clear hown hbw hG hG1
        obtain ⟨k, out, gb, hk, rfl, rfl, hown, hbw, hG⟩ := hrel
        by_cases hlk : k < l.length
        · go_wp2_with fail
          go_loopw [5, 6, 8] (fun v g i wr => ∃ (m : Nat) (out : List Int) (gb : Bool), m ≤ l.length ∧ i = .int .i64 m ∧ g = .bool gb ∧ OwnI 3 wr w.heap.size v out ∧ Below w.heap.size w wr ∧ GI l f n0 gb k m out) (fun _ _ i _ => l.length - (intOf i).toNat)
          case atStart => exact ⟨0, out, gb, by omega, rfl, rfl, hown, hbw, hG⟩
          case round =>
            clear hown hbw hG
            obtain ⟨m, out, gb, hm, rfl, rfl, hown, hbw, hG⟩ := hrel
            by_cases hlm : m < l.length
            · obtain ⟨b, off, rfl, hb, c0, c1, c2, c3, c4, c5, c6, c7⟩ := RdC.get hR hbw hlk
              obtain ⟨_, d0, d1, d2, d3, d4, d5, d6, d7⟩ := RdC.cells hR hbw hlm
              obtain ⟨x, hx⟩ : ∃ x, l[k]! = x := ⟨_, rfl⟩
              obtain ⟨y, hy⟩ : ∃ y, l[m]! = y := ⟨_, rfl⟩
              have HX := Lib.hid hx
              have HY := Lib.hid hy
              rw [hx] at c0 c1 c2 c3 c4 c5 c6 c7
              rw [hy] at d0 d1 d2 d3 d4 d5 d6 d7
              clear hx hy
              have hbs := hbw.size
              have hbd : b < wr.drew.heap.size := Nat.lt_of_lt_of_le hb hbs
              have SB : Hid (∀ W, Below wr.drew.heap.size wr.drew W → (fun w' : World => w'.cell? ⟨b, off + k * 8, none⟩ = some (.int .i64 x.f) ∧ w'.cell? ⟨b, off + k * 8 + 1, none⟩ = some (.int .i64 x.x0) ∧ w'.cell? ⟨b, off + k * 8 + 2, none⟩ = some (.int .i64 x.y0) ∧ w'.cell? ⟨b, off + k * 8 + 3, none⟩ = some (.int .i64 x.x1) ∧ w'.cell? ⟨b, off + k * 8 + 4, none⟩ = some (.int .i64 x.y1) ∧ w'.cell? ⟨b, off + k * 8 + 5, none⟩ = some (.int .i64 x.ax) ∧ w'.cell? ⟨b, off + k * 8 + 6, none⟩ = some (.int .i64 x.ay) ∧ w'.cell? ⟨b, off + k * 8 + 7, none⟩ = some (.int .i64 x.co) ∧ w'.cell? ⟨b, off + m * 8, none⟩ = some (.int .i64 y.f) ∧ w'.cell? ⟨b, off + m * 8 + 1, none⟩ = some (.int .i64 y.x0) ∧ w'.cell? ⟨b, off + m * 8 + 2, none⟩ = some (.int .i64 y.y0) ∧ w'.cell? ⟨b, off + m * 8 + 3, none⟩ = some (.int .i64 y.x1) ∧ w'.cell? ⟨b, off + m * 8 + 4, none⟩ = some (.int .i64 y.y1) ∧ w'.cell? ⟨b, off + m * 8 + 5, none⟩ = some (.int .i64 y.ax) ∧ w'.cell? ⟨b, off + m * 8 + 6, none⟩ = some (.int .i64 y.ay) ∧ w'.cell? ⟨b, off + m * 8 + 7, none⟩ = some (.int .i64 y.co) ∧ Below wr.drew.heap.size wr.drew w') W) := Lib.hid (fun W hb' => ⟨(hb'.cell (p := ⟨b, off + k * 8, none⟩) hbd).trans c0, (hb'.cell (p := ⟨b, off + k * 8 + 1, none⟩) hbd).trans c1, (hb'.cell (p := ⟨b, off + k * 8 + 2, none⟩) hbd).trans c2, (hb'.cell (p := ⟨b, off + k * 8 + 3, none⟩) hbd).trans c3, (hb'.cell (p := ⟨b, off + k * 8 + 4, none⟩) hbd).trans c4, (hb'.cell (p := ⟨b, off + k * 8 + 5, none⟩) hbd).trans c5, (hb'.cell (p := ⟨b, off + k * 8 + 6, none⟩) hbd).trans c6, (hb'.cell (p := ⟨b, off + k * 8 + 7, none⟩) hbd).trans c7, (hb'.cell (p := ⟨b, off + m * 8, none⟩) hbd).trans d0, (hb'.cell (p := ⟨b, off + m * 8 + 1, none⟩) hbd).trans d1, (hb'.cell (p := ⟨b, off + m * 8 + 2, none⟩) hbd).trans d2, (hb'.cell (p := ⟨b, off + m * 8 + 3, none⟩) hbd).trans d3, (hb'.cell (p := ⟨b, off + m * 8 + 4, none⟩) hbd).trans d4, (hb'.cell (p := ⟨b, off + m * 8 + 5, none⟩) hbd).trans d5, (hb'.cell (p := ⟨b, off + m * 8 + 6, none⟩) hbd).trans d6, (hb'.cell (p := ⟨b, off + m * 8 + 7, none⟩) hbd).trans d7, hb'⟩)
              have hS0 := SB.out wr.drew (Below.refl _ _)
              obtain ⟨A1, c1', rfl⟩ := Own.slice hown
              have hRo : RdI wr.drew A1 out := Own.rd encI_len hown
              have hbo := hG.bound
              obtain ⟨bz, hbz⟩ : ∃ bz : Int → Bool, bz = fun z => decide (z ∈ out) := ⟨_, rfl⟩
              have hasC : Hid (∀ (z : Int) (W : World), (fun w' : World => w'.cell? ⟨b, off + k * 8, none⟩ = some (.int .i64 x.f) ∧ w'.cell? ⟨b, off + k * 8 + 1, none⟩ = some (.int .i64 x.x0) ∧ w'.cell? ⟨b, off + k * 8 + 2, none⟩ = some (.int .i64 x.y0) ∧ w'.cell? ⟨b, off + k * 8 + 3, none⟩ = some (.int .i64 x.x1) ∧ w'.cell? ⟨b, off + k * 8 + 4, none⟩ = some (.int .i64 x.y1) ∧ w'.cell? ⟨b, off + k * 8 + 5, none⟩ = some (.int .i64 x.ax) ∧ w'.cell? ⟨b, off + k * 8 + 6, none⟩ = some (.int .i64 x.ay) ∧ w'.cell? ⟨b, off + k * 8 + 7, none⟩ = some (.int .i64 x.co) ∧ w'.cell? ⟨b, off + m * 8, none⟩ = some (.int .i64 y.f) ∧ w'.cell? ⟨b, off + m * 8 + 1, none⟩ = some (.int .i64 y.x0) ∧ w'.cell? ⟨b, off + m * 8 + 2, none⟩ = some (.int .i64 y.y0) ∧ w'.cell? ⟨b, off + m * 8 + 3, none⟩ = some (.int .i64 y.x1) ∧ w'.cell? ⟨b, off + m * 8 + 4, none⟩ = some (.int .i64 y.y1) ∧ w'.cell? ⟨b, off + m * 8 + 5, none⟩ = some (.int .i64 y.ax) ∧ w'.cell? ⟨b, off + m * 8 + 6, none⟩ = some (.int .i64 y.ay) ∧ w'.cell? ⟨b, off + m * 8 + 7, none⟩ = some (.int .i64 y.co) ∧ Below wr.drew.heap.size wr.drew w') W → Calls Try.prog 25 #[.slice A1 out.length c1', .int .i64 z] W (fun e w' => e = .returned (.bool (bz z)) ∧ (fun w' : World => w'.cell? ⟨b, off + k * 8, none⟩ = some (.int .i64 x.f) ∧ w'.cell? ⟨b, off + k * 8 + 1, none⟩ = some (.int .i64 x.x0) ∧ w'.cell? ⟨b, off + k * 8 + 2, none⟩ = some (.int .i64 x.y0) ∧ w'.cell? ⟨b, off + k * 8 + 3, none⟩ = some (.int .i64 x.x1) ∧ w'.cell? ⟨b, off + k * 8 + 4, none⟩ = some (.int .i64 x.y1) ∧ w'.cell? ⟨b, off + k * 8 + 5, none⟩ = some (.int .i64 x.ax) ∧ w'.cell? ⟨b, off + k * 8 + 6, none⟩ = some (.int .i64 x.ay) ∧ w'.cell? ⟨b, off + k * 8 + 7, none⟩ = some (.int .i64 x.co) ∧ w'.cell? ⟨b, off + m * 8, none⟩ = some (.int .i64 y.f) ∧ w'.cell? ⟨b, off + m * 8 + 1, none⟩ = some (.int .i64 y.x0) ∧ w'.cell? ⟨b, off + m * 8 + 2, none⟩ = some (.int .i64 y.y0) ∧ w'.cell? ⟨b, off + m * 8 + 3, none⟩ = some (.int .i64 y.x1) ∧ w'.cell? ⟨b, off + m * 8 + 4, none⟩ = some (.int .i64 y.y1) ∧ w'.cell? ⟨b, off + m * 8 + 5, none⟩ = some (.int .i64 y.ax) ∧ w'.cell? ⟨b, off + m * 8 + 6, none⟩ = some (.int .i64 y.ay) ∧ w'.cell? ⟨b, off + m * 8 + 7, none⟩ = some (.int .i64 y.co) ∧ Below wr.drew.heap.size wr.drew w') w')) := Lib.hid (fun z W hS => by
                obtain ⟨_, _, _, _, _, _, _, _, _, _, _, _, _, _, _, _, hB⟩ := hS
                rw [hbz]
                exact (ref_has A1 c1' z out W (by omega) (hRo.below hB)).mono fun e w' ⟨he, hb⟩ => ⟨he, SB.out w' (hB.trans (hb.mono hB.size))⟩)
              obtain ⟨hv, hhv⟩ : ∃ hv, hitB x y = hv := ⟨_, rfl⟩
              have hitC : Hid (∀ (W : World), (fun w' : World => w'.cell? ⟨b, off + k * 8, none⟩ = some (.int .i64 x.f) ∧ w'.cell? ⟨b, off + k * 8 + 1, none⟩ = some (.int .i64 x.x0) ∧ w'.cell? ⟨b, off + k * 8 + 2, none⟩ = some (.int .i64 x.y0) ∧ w'.cell? ⟨b, off + k * 8 + 3, none⟩ = some (.int .i64 x.x1) ∧ w'.cell? ⟨b, off + k * 8 + 4, none⟩ = some (.int .i64 x.y1) ∧ w'.cell? ⟨b, off + k * 8 + 5, none⟩ = some (.int .i64 x.ax) ∧ w'.cell? ⟨b, off + k * 8 + 6, none⟩ = some (.int .i64 x.ay) ∧ w'.cell? ⟨b, off + k * 8 + 7, none⟩ = some (.int .i64 x.co) ∧ w'.cell? ⟨b, off + m * 8, none⟩ = some (.int .i64 y.f) ∧ w'.cell? ⟨b, off + m * 8 + 1, none⟩ = some (.int .i64 y.x0) ∧ w'.cell? ⟨b, off + m * 8 + 2, none⟩ = some (.int .i64 y.y0) ∧ w'.cell? ⟨b, off + m * 8 + 3, none⟩ = some (.int .i64 y.x1) ∧ w'.cell? ⟨b, off + m * 8 + 4, none⟩ = some (.int .i64 y.y1) ∧ w'.cell? ⟨b, off + m * 8 + 5, none⟩ = some (.int .i64 y.ax) ∧ w'.cell? ⟨b, off + m * 8 + 6, none⟩ = some (.int .i64 y.ay) ∧ w'.cell? ⟨b, off + m * 8 + 7, none⟩ = some (.int .i64 y.co) ∧ Below wr.drew.heap.size wr.drew w') W → Calls Try.prog 30 #[aggC x, aggC y] W (fun e w' => e = .returned (.bool hv) ∧ (fun w' : World => w'.cell? ⟨b, off + k * 8, none⟩ = some (.int .i64 x.f) ∧ w'.cell? ⟨b, off + k * 8 + 1, none⟩ = some (.int .i64 x.x0) ∧ w'.cell? ⟨b, off + k * 8 + 2, none⟩ = some (.int .i64 x.y0) ∧ w'.cell? ⟨b, off + k * 8 + 3, none⟩ = some (.int .i64 x.x1) ∧ w'.cell? ⟨b, off + k * 8 + 4, none⟩ = some (.int .i64 x.y1) ∧ w'.cell? ⟨b, off + k * 8 + 5, none⟩ = some (.int .i64 x.ax) ∧ w'.cell? ⟨b, off + k * 8 + 6, none⟩ = some (.int .i64 x.ay) ∧ w'.cell? ⟨b, off + k * 8 + 7, none⟩ = some (.int .i64 x.co) ∧ w'.cell? ⟨b, off + m * 8, none⟩ = some (.int .i64 y.f) ∧ w'.cell? ⟨b, off + m * 8 + 1, none⟩ = some (.int .i64 y.x0) ∧ w'.cell? ⟨b, off + m * 8 + 2, none⟩ = some (.int .i64 y.y0) ∧ w'.cell? ⟨b, off + m * 8 + 3, none⟩ = some (.int .i64 y.x1) ∧ w'.cell? ⟨b, off + m * 8 + 4, none⟩ = some (.int .i64 y.y1) ∧ w'.cell? ⟨b, off + m * 8 + 5, none⟩ = some (.int .i64 y.ax) ∧ w'.cell? ⟨b, off + m * 8 + 6, none⟩ = some (.int .i64 y.ay) ∧ w'.cell? ⟨b, off + m * 8 + 7, none⟩ = some (.int .i64 y.co) ∧ Below wr.drew.heap.size wr.drew w') w')) := Lib.hid (fun W hS => by
                obtain ⟨_, _, _, _, _, _, _, _, _, _, _, _, _, _, _, _, hB⟩ := hS
                rw [← hhv]
                exact (ref_hit x y W).mono fun e w' ⟨he, hb⟩ => ⟨he, SB.out w' (hB.trans (hb.mono hB.size))⟩)
              have HV := Lib.hid hhv
              have HB := Lib.hid hbz
              have CY := Lib.hid (fun (W : World) (h : Below wr.drew.heap.size wr.drew W) => (h.cell (p := ⟨b, off + m * 8, none⟩) hbd).trans d0)
              clear hhv hbz c0 c1 c2 c3 c4 c5 c6 c7 d0 d1 d2 d3 d4 d5 d6 d7 hRo hbo
              rcases hv with _ | _
              · go_wp2_with fail
                refine wp_region_held_drew (S := (fun w' : World => w'.cell? ⟨b, off + k * 8, none⟩ = some (.int .i64 x.f) ∧ w'.cell? ⟨b, off + k * 8 + 1, none⟩ = some (.int .i64 x.x0) ∧ w'.cell? ⟨b, off + k * 8 + 2, none⟩ = some (.int .i64 x.y0) ∧ w'.cell? ⟨b, off + k * 8 + 3, none⟩ = some (.int .i64 x.x1) ∧ w'.cell? ⟨b, off + k * 8 + 4, none⟩ = some (.int .i64 x.y1) ∧ w'.cell? ⟨b, off + k * 8 + 5, none⟩ = some (.int .i64 x.ax) ∧ w'.cell? ⟨b, off + k * 8 + 6, none⟩ = some (.int .i64 x.ay) ∧ w'.cell? ⟨b, off + k * 8 + 7, none⟩ = some (.int .i64 x.co) ∧ w'.cell? ⟨b, off + m * 8, none⟩ = some (.int .i64 y.f) ∧ w'.cell? ⟨b, off + m * 8 + 1, none⟩ = some (.int .i64 y.x0) ∧ w'.cell? ⟨b, off + m * 8 + 2, none⟩ = some (.int .i64 y.y0) ∧ w'.cell? ⟨b, off + m * 8 + 3, none⟩ = some (.int .i64 y.x1) ∧ w'.cell? ⟨b, off + m * 8 + 4, none⟩ = some (.int .i64 y.y1) ∧ w'.cell? ⟨b, off + m * 8 + 5, none⟩ = some (.int .i64 y.ax) ∧ w'.cell? ⟨b, off + m * 8 + 6, none⟩ = some (.int .i64 y.ay) ∧ w'.cell? ⟨b, off + m * 8 + 7, none⟩ = some (.int .i64 y.co) ∧ Below wr.drew.heap.size wr.drew w')) (by kernel_rfl) hS0 (fun hHeld => ?_)
                refine wpAnyH_take (i := 0) (oi := ⟨some 24, _, _, _, _, _⟩) (v := ?v1) rfl (by kernel_rfl) (by kernel_rfl) (by kernel_rfl) (fun _ _ _ h => h) (Or.inl ⟨by kernel_rfl, ?hy1⟩) (by assumption) ?rest1
                case hy1 => (intro w hSw; (try dsimp only at hSw); go_simp; try with_reducible rfl)
                case' rest1 => try simp only [Act.put, List.setIfInBounds_toArray, List.set_cons_zero, List.set_cons_succ]
                refine wpAnyH_take (i := 1) (oi := ⟨some 25, _, _, _, _, _⟩) (v := ?v2) rfl (by kernel_rfl) (by kernel_rfl) (by kernel_rfl) (fun _ _ _ h => h) (Or.inl ⟨by kernel_rfl, ?hy2⟩) (by assumption) ?rest2
                case hy2 => (intro w hSw; (try dsimp only at hSw); go_simp; try with_reducible rfl)
                case' rest2 => try simp only [Act.put, List.setIfInBounds_toArray, List.set_cons_zero, List.set_cons_succ]
                refine wpAnyH_take (i := 2) (oi := ⟨some 26, _, _, _, _, _⟩) (v := ?v3) rfl (by kernel_rfl) (by kernel_rfl) (by kernel_rfl) (fun _ _ _ h => h) (Or.inl ⟨by kernel_rfl, ?hy3⟩) (by assumption) ?rest3
                case hy3 => (intro w hSw; (try dsimp only at hSw); go_simp; try with_reducible rfl)
                case' rest3 => try simp only [Act.put, List.setIfInBounds_toArray, List.set_cons_zero, List.set_cons_succ]
                refine wpAnyH_take (i := 3) (oi := ⟨some 27, _, _, _, _, _⟩) (v := ?v4) rfl (by kernel_rfl) (by kernel_rfl) (by kernel_rfl) (fun _ _ _ h => h) (Or.inl ⟨by kernel_rfl, ?hy4⟩) (by assumption) ?rest4
                case hy4 => (intro w hSw; (try dsimp only at hSw); go_simp; try with_reducible rfl)
                case' rest4 => try simp only [Act.put, List.setIfInBounds_toArray, List.set_cons_zero, List.set_cons_succ]
                refine wpAnyH_take (i := 4) (oi := ⟨some 28, _, _, _, _, _⟩) (v := ?v5) rfl (by kernel_rfl) (by kernel_rfl) (by kernel_rfl) (fun _ _ _ h => h) (Or.inl ⟨by kernel_rfl, ?hy5⟩) (by assumption) ?rest5
                case hy5 => (intro w hSw; (try dsimp only at hSw); go_simp; try with_reducible rfl)
                case' rest5 => try simp only [Act.put, List.setIfInBounds_toArray, List.set_cons_zero, List.set_cons_succ]
                refine wpAnyH_take (i := 5) (oi := ⟨some 29, _, _, _, _, _⟩) (v := ?v6) rfl (by kernel_rfl) (by kernel_rfl) (by kernel_rfl) (fun _ _ _ h => h) (Or.inl ⟨by kernel_rfl, ?hy6⟩) (by assumption) ?rest6
                case hy6 => (intro w hSw; (try dsimp only at hSw); go_simp; try with_reducible rfl)
                case' rest6 => try simp only [Act.put, List.setIfInBounds_toArray, List.set_cons_zero, List.set_cons_succ]
                refine wpAnyH_take (i := 6) (oi := ⟨some 30, _, _, _, _, _⟩) (v := ?v7) rfl (by kernel_rfl) (by kernel_rfl) (by kernel_rfl) (fun _ _ _ h => h) (Or.inl ⟨by kernel_rfl, ?hy7⟩) (by assumption) ?rest7
                case hy7 => (intro w hSw; (try dsimp only at hSw); go_simp; try with_reducible rfl)
                case' rest7 => try simp only [Act.put, List.setIfInBounds_toArray, List.set_cons_zero, List.set_cons_succ]
                refine wpAnyH_take (i := 7) (oi := ⟨some 31, _, _, _, _, _⟩) (v := ?v8) rfl (by kernel_rfl) (by kernel_rfl) (by kernel_rfl) (fun _ _ _ h => h) (Or.inl ⟨by kernel_rfl, ?hy8⟩) (by assumption) ?rest8
                case hy8 => (intro w hSw; (try dsimp only at hSw); go_simp; try with_reducible rfl)
                case' rest8 => try simp only [Act.put, List.setIfInBounds_toArray, List.set_cons_zero, List.set_cons_succ]
                refine wpAnyH_ready (rs := [8]) (by kernel_rfl) (by simp) ?_
                refine AllReadyH.cons (o := ⟨some 32, _, _, _, _, _⟩) rfl (fun K hK => ?_) AllReadyH.nil
                go_simp
                go_at_call 30
                refine (hitC.out _ hS0).mono ?_
                rintro e w1 ⟨rfl, hS1⟩
                go_wp2_with fail
                refine hK.out _ _ hS1 (fun hHeld => ?_)
                clear hK K
                try simp only [Act.put, List.setIfInBounds_toArray, List.set_cons_zero, List.set_cons_succ]
                refine wpAnyH_take (i := 9) (oi := ⟨some 33, _, _, _, _, _⟩) (v := ?v9) rfl (by kernel_rfl) (by kernel_rfl) (by kernel_rfl) (fun _ _ _ h => h) (Or.inl ⟨by kernel_rfl, ?hy9⟩) (by assumption) ?rest9
                case hy9 => (intro w hSw; (try dsimp only at hSw); go_simp; try with_reducible rfl)
                case' rest9 => try simp only [Act.put, List.setIfInBounds_toArray, List.set_cons_zero, List.set_cons_succ]
                refine wpAnyH_take (i := 10) (oi := ⟨some 34, _, _, _, _, _⟩) (v := undef) rfl (by kernel_rfl) (by kernel_rfl) (by kernel_rfl) (fun _ _ _ h => h) (Or.inr ⟨by kernel_rfl, rfl⟩) (by assumption) ?rest10
                case' rest10 => try simp only [Act.put, List.setIfInBounds_toArray, List.set_cons_zero, List.set_cons_succ]
                refine wpAnyH_take (i := 11) (oi := ⟨some 35, _, _, _, _, _⟩) (v := undef) rfl (by kernel_rfl) (by kernel_rfl) (by kernel_rfl) (fun _ _ _ h => h) (Or.inr ⟨by kernel_rfl, rfl⟩) (by assumption) ?rest11
                case' rest11 => try simp only [Act.put, List.setIfInBounds_toArray, List.set_cons_zero, List.set_cons_succ]
                refine wpAnyH_take (i := 12) (oi := ⟨some 36, _, _, _, _, _⟩) (v := undef) rfl (by kernel_rfl) (by kernel_rfl) (by kernel_rfl) (fun _ _ _ h => h) (Or.inr ⟨by kernel_rfl, rfl⟩) (by assumption) ?rest12
                case' rest12 => try simp only [Act.put, List.setIfInBounds_toArray, List.set_cons_zero, List.set_cons_succ]
                refine wpAnyH_take (i := 13) (oi := ⟨some 37, _, _, _, _, _⟩) (v := undef) rfl (by kernel_rfl) (by kernel_rfl) (by kernel_rfl) (fun _ _ _ h => h) (Or.inr ⟨by kernel_rfl, rfl⟩) (by assumption) ?rest13
                case' rest13 => try simp only [Act.put, List.setIfInBounds_toArray, List.set_cons_zero, List.set_cons_succ]
                refine wpAnyH_take (i := 14) (oi := ⟨some 38, _, _, _, _, _⟩) (v := undef) rfl (by kernel_rfl) (by kernel_rfl) (by kernel_rfl) (fun _ _ _ h => h) (Or.inr ⟨by kernel_rfl, rfl⟩) (by assumption) ?rest14
                case' rest14 => try simp only [Act.put, List.setIfInBounds_toArray, List.set_cons_zero, List.set_cons_succ]
                refine wpAnyH_take (i := 15) (oi := ⟨some 39, _, _, _, _, _⟩) (v := undef) rfl (by kernel_rfl) (by kernel_rfl) (by kernel_rfl) (fun _ _ _ h => h) (Or.inr ⟨by kernel_rfl, rfl⟩) (by assumption) ?rest15
                case' rest15 => try simp only [Act.put, List.setIfInBounds_toArray, List.set_cons_zero, List.set_cons_succ]
                refine wpAnyH_take (i := 16) (oi := ⟨some 40, _, _, _, _, _⟩) (v := undef) rfl (by kernel_rfl) (by kernel_rfl) (by kernel_rfl) (fun _ _ _ h => h) (Or.inr ⟨by kernel_rfl, rfl⟩) (by assumption) ?rest16
                case' rest16 => try simp only [Act.put, List.setIfInBounds_toArray, List.set_cons_zero, List.set_cons_succ]
                refine wpAnyH_take (i := 17) (oi := ⟨some 41, _, _, _, _, _⟩) (v := ?v17) rfl (by kernel_rfl) (by kernel_rfl) (by kernel_rfl) (fun _ _ _ h => h) (Or.inl ⟨by kernel_rfl, ?hy17⟩) (by assumption) ?rest17
                case hy17 => (intro w hSw; (try dsimp only at hSw); go_simp; try with_reducible rfl)
                case' rest17 => try simp only [Act.put, List.setIfInBounds_toArray, List.set_cons_zero, List.set_cons_succ]
                refine wpAnyH_take (i := 18) (oi := ⟨some 42, _, _, _, _, _⟩) (v := ?v18) rfl (by kernel_rfl) (by kernel_rfl) (by kernel_rfl) (fun _ _ _ h => h) (Or.inl ⟨by kernel_rfl, ?hy18⟩) (by assumption) ?rest18
                case hy18 => (intro w hSw; (try dsimp only at hSw); go_simp; try with_reducible rfl)
                case' rest18 => try simp only [Act.put, List.setIfInBounds_toArray, List.set_cons_zero, List.set_cons_succ]
                refine wpAnyH_take (i := 19) (oi := ⟨some 43, _, _, _, _, _⟩) (v := undef) rfl (by kernel_rfl) (by kernel_rfl) (by kernel_rfl) (fun _ _ _ h => h) (Or.inr ⟨by kernel_rfl, rfl⟩) (by assumption) ?rest19
                case' rest19 => try simp only [Act.put, List.setIfInBounds_toArray, List.set_cons_zero, List.set_cons_succ]
                refine wpAnyH_take (i := 20) (oi := ⟨some 44, _, _, _, _, _⟩) (v := undef) rfl (by kernel_rfl) (by kernel_rfl) (by kernel_rfl) (fun _ _ _ h => h) (Or.inr ⟨by kernel_rfl, rfl⟩) (by assumption) ?rest20
                case' rest20 => try simp only [Act.put, List.setIfInBounds_toArray, List.set_cons_zero, List.set_cons_succ]
                refine wpAnyH_take (i := 21) (oi := ⟨some 45, _, _, _, _, _⟩) (v := undef) rfl (by kernel_rfl) (by kernel_rfl) (by kernel_rfl) (fun _ _ _ h => h) (Or.inr ⟨by kernel_rfl, rfl⟩) (by assumption) ?rest21
                case' rest21 => try simp only [Act.put, List.setIfInBounds_toArray, List.set_cons_zero, List.set_cons_succ]
                refine wpAnyH_take (i := 22) (oi := ⟨some 46, _, _, _, _, _⟩) (v := undef) rfl (by kernel_rfl) (by kernel_rfl) (by kernel_rfl) (fun _ _ _ h => h) (Or.inr ⟨by kernel_rfl, rfl⟩) (by assumption) ?rest22
                case' rest22 => try simp only [Act.put, List.setIfInBounds_toArray, List.set_cons_zero, List.set_cons_succ]
                refine wpAnyH_take (i := 23) (oi := ⟨some 47, _, _, _, _, _⟩) (v := undef) rfl (by kernel_rfl) (by kernel_rfl) (by kernel_rfl) (fun _ _ _ h => h) (Or.inr ⟨by kernel_rfl, rfl⟩) (by assumption) ?rest23
                case' rest23 => try simp only [Act.put, List.setIfInBounds_toArray, List.set_cons_zero, List.set_cons_succ]
                refine wpAnyH_take (i := 24) (oi := ⟨some 48, _, _, _, _, _⟩) (v := undef) rfl (by kernel_rfl) (by kernel_rfl) (by kernel_rfl) (fun _ _ _ h => h) (Or.inr ⟨by kernel_rfl, rfl⟩) (by assumption) ?rest24
                case' rest24 => try simp only [Act.put, List.setIfInBounds_toArray, List.set_cons_zero, List.set_cons_succ]
                refine wpAnyH_take (i := 25) (oi := ⟨some 49, _, _, _, _, _⟩) (v := undef) rfl (by kernel_rfl) (by kernel_rfl) (by kernel_rfl) (fun _ _ _ h => h) (Or.inr ⟨by kernel_rfl, rfl⟩) (by assumption) ?rest25
                case' rest25 => try simp only [Act.put, List.setIfInBounds_toArray, List.set_cons_zero, List.set_cons_succ]
                refine wpAnyH_take (i := 26) (oi := ⟨some 50, _, _, _, _, _⟩) (v := undef) rfl (by kernel_rfl) (by kernel_rfl) (by kernel_rfl) (fun _ _ _ h => h) (Or.inr ⟨by kernel_rfl, rfl⟩) (by assumption) ?rest26
                case' rest26 => try simp only [Act.put, List.setIfInBounds_toArray, List.set_cons_zero, List.set_cons_succ]
                refine wpAnyH_take (i := 27) (oi := ⟨some 51, _, _, _, _, _⟩) (v := ?v27) rfl (by kernel_rfl) (by kernel_rfl) (by kernel_rfl) (fun _ _ _ h => h) (Or.inl ⟨by kernel_rfl, ?hy27⟩) (by assumption) ?rest27
                case hy27 => (intro w hSw; (try dsimp only at hSw); go_simp; try with_reducible rfl)
                case' rest27 => try simp only [Act.put, List.setIfInBounds_toArray, List.set_cons_zero, List.set_cons_succ]
                refine wpAnyH_done (by kernel_rfl) ?_ _
                have hS9 := hHeld
                obtain ⟨_, _, _, _, _, _, _, _, _, _, _, _, _, _, _, _, hB⟩ := hS9
                have hbw1 : Below w.heap.size w w1 := (hbw.drew).trans (hB.mono hbs)
                have hown1 := hown.below ((Below.refl wr.heap.size wr).drew.trans hB)
                clear hS0 hHeld
                go_wp2
                go_roundw
                case rel => exact ⟨m + 1, out, gb, by omega, by go_num, rfl, hown1, hbw1, hG.skip (by rw [HX.out, HY.out, HV.out]; intro h; cases h)⟩
                case measure => simp [intOf]; omega
              · rcases hbx : bz x.f with _ | _
                · go_wp2_with fail
                  refine wp_region_held_drew (S := (fun w' : World => w'.cell? ⟨b, off + k * 8, none⟩ = some (.int .i64 x.f) ∧ w'.cell? ⟨b, off + k * 8 + 1, none⟩ = some (.int .i64 x.x0) ∧ w'.cell? ⟨b, off + k * 8 + 2, none⟩ = some (.int .i64 x.y0) ∧ w'.cell? ⟨b, off + k * 8 + 3, none⟩ = some (.int .i64 x.x1) ∧ w'.cell? ⟨b, off + k * 8 + 4, none⟩ = some (.int .i64 x.y1) ∧ w'.cell? ⟨b, off + k * 8 + 5, none⟩ = some (.int .i64 x.ax) ∧ w'.cell? ⟨b, off + k * 8 + 6, none⟩ = some (.int .i64 x.ay) ∧ w'.cell? ⟨b, off + k * 8 + 7, none⟩ = some (.int .i64 x.co) ∧ w'.cell? ⟨b, off + m * 8, none⟩ = some (.int .i64 y.f) ∧ w'.cell? ⟨b, off + m * 8 + 1, none⟩ = some (.int .i64 y.x0) ∧ w'.cell? ⟨b, off + m * 8 + 2, none⟩ = some (.int .i64 y.y0) ∧ w'.cell? ⟨b, off + m * 8 + 3, none⟩ = some (.int .i64 y.x1) ∧ w'.cell? ⟨b, off + m * 8 + 4, none⟩ = some (.int .i64 y.y1) ∧ w'.cell? ⟨b, off + m * 8 + 5, none⟩ = some (.int .i64 y.ax) ∧ w'.cell? ⟨b, off + m * 8 + 6, none⟩ = some (.int .i64 y.ay) ∧ w'.cell? ⟨b, off + m * 8 + 7, none⟩ = some (.int .i64 y.co) ∧ Below wr.drew.heap.size wr.drew w')) (by kernel_rfl) hS0 (fun hHeld => ?_)
                  refine wpAnyH_take (i := 0) (oi := ⟨some 24, _, _, _, _, _⟩) (v := ?v28) rfl (by kernel_rfl) (by kernel_rfl) (by kernel_rfl) (fun _ _ _ h => h) (Or.inl ⟨by kernel_rfl, ?hy28⟩) (by assumption) ?rest28
                  case hy28 => (intro w hSw; (try dsimp only at hSw); go_simp; try with_reducible rfl)
                  case' rest28 => try simp only [Act.put, List.setIfInBounds_toArray, List.set_cons_zero, List.set_cons_succ]
                  refine wpAnyH_take (i := 1) (oi := ⟨some 25, _, _, _, _, _⟩) (v := ?v29) rfl (by kernel_rfl) (by kernel_rfl) (by kernel_rfl) (fun _ _ _ h => h) (Or.inl ⟨by kernel_rfl, ?hy29⟩) (by assumption) ?rest29
                  case hy29 => (intro w hSw; (try dsimp only at hSw); go_simp; try with_reducible rfl)
                  case' rest29 => try simp only [Act.put, List.setIfInBounds_toArray, List.set_cons_zero, List.set_cons_succ]
                  refine wpAnyH_take (i := 2) (oi := ⟨some 26, _, _, _, _, _⟩) (v := ?v30) rfl (by kernel_rfl) (by kernel_rfl) (by kernel_rfl) (fun _ _ _ h => h) (Or.inl ⟨by kernel_rfl, ?hy30⟩) (by assumption) ?rest30
                  case hy30 => (intro w hSw; (try dsimp only at hSw); go_simp; try with_reducible rfl)
                  case' rest30 => try simp only [Act.put, List.setIfInBounds_toArray, List.set_cons_zero, List.set_cons_succ]
                  refine wpAnyH_take (i := 3) (oi := ⟨some 27, _, _, _, _, _⟩) (v := ?v31) rfl (by kernel_rfl) (by kernel_rfl) (by kernel_rfl) (fun _ _ _ h => h) (Or.inl ⟨by kernel_rfl, ?hy31⟩) (by assumption) ?rest31
                  case hy31 => (intro w hSw; (try dsimp only at hSw); go_simp; try with_reducible rfl)
                  case' rest31 => try simp only [Act.put, List.setIfInBounds_toArray, List.set_cons_zero, List.set_cons_succ]
                  refine wpAnyH_take (i := 4) (oi := ⟨some 28, _, _, _, _, _⟩) (v := ?v32) rfl (by kernel_rfl) (by kernel_rfl) (by kernel_rfl) (fun _ _ _ h => h) (Or.inl ⟨by kernel_rfl, ?hy32⟩) (by assumption) ?rest32
                  case hy32 => (intro w hSw; (try dsimp only at hSw); go_simp; try with_reducible rfl)
                  case' rest32 => try simp only [Act.put, List.setIfInBounds_toArray, List.set_cons_zero, List.set_cons_succ]
                  refine wpAnyH_take (i := 5) (oi := ⟨some 29, _, _, _, _, _⟩) (v := ?v33) rfl (by kernel_rfl) (by kernel_rfl) (by kernel_rfl) (fun _ _ _ h => h) (Or.inl ⟨by kernel_rfl, ?hy33⟩) (by assumption) ?rest33
                  case hy33 => (intro w hSw; (try dsimp only at hSw); go_simp; try with_reducible rfl)
                  case' rest33 => try simp only [Act.put, List.setIfInBounds_toArray, List.set_cons_zero, List.set_cons_succ]
                  refine wpAnyH_take (i := 6) (oi := ⟨some 30, _, _, _, _, _⟩) (v := ?v34) rfl (by kernel_rfl) (by kernel_rfl) (by kernel_rfl) (fun _ _ _ h => h) (Or.inl ⟨by kernel_rfl, ?hy34⟩) (by assumption) ?rest34
                  case hy34 => (intro w hSw; (try dsimp only at hSw); go_simp; try with_reducible rfl)
                  case' rest34 => try simp only [Act.put, List.setIfInBounds_toArray, List.set_cons_zero, List.set_cons_succ]
                  refine wpAnyH_take (i := 7) (oi := ⟨some 31, _, _, _, _, _⟩) (v := ?v35) rfl (by kernel_rfl) (by kernel_rfl) (by kernel_rfl) (fun _ _ _ h => h) (Or.inl ⟨by kernel_rfl, ?hy35⟩) (by assumption) ?rest35
                  case hy35 => (intro w hSw; (try dsimp only at hSw); go_simp; try with_reducible rfl)
                  case' rest35 => try simp only [Act.put, List.setIfInBounds_toArray, List.set_cons_zero, List.set_cons_succ]
                  refine wpAnyH_ready (rs := [8]) (by kernel_rfl) (by simp) ?_
                  refine AllReadyH.cons (o := ⟨some 32, _, _, _, _, _⟩) rfl (fun K hK => ?_) AllReadyH.nil
                  go_simp
                  go_at_call 30
                  refine (hitC.out _ hS0).mono ?_
                  rintro e w1 ⟨rfl, hS1⟩
                  go_wp2_with fail
                  refine hK.out _ _ hS1 (fun hHeld => ?_)
                  clear hK K
                  try simp only [Act.put, List.setIfInBounds_toArray, List.set_cons_zero, List.set_cons_succ]
                  refine wpAnyH_take (i := 9) (oi := ⟨some 33, _, _, _, _, _⟩) (v := ?v36) rfl (by kernel_rfl) (by kernel_rfl) (by kernel_rfl) (fun _ _ _ h => h) (Or.inl ⟨by kernel_rfl, ?hy36⟩) (by assumption) ?rest36
                  case hy36 => (intro w hSw; (try dsimp only at hSw); go_simp; try with_reducible rfl)
                  case' rest36 => try simp only [Act.put, List.setIfInBounds_toArray, List.set_cons_zero, List.set_cons_succ]
                  refine wpAnyH_take (i := 10) (oi := ⟨some 34, _, _, _, _, _⟩) (v := ?v37) rfl (by kernel_rfl) (by kernel_rfl) (by kernel_rfl) (fun _ _ _ h => h) (Or.inl ⟨by kernel_rfl, ?hy37⟩) (by assumption) ?rest37
                  case hy37 => (intro w hSw; (try dsimp only at hSw); go_simp; try with_reducible rfl)
                  case' rest37 => try simp only [Act.put, List.setIfInBounds_toArray, List.set_cons_zero, List.set_cons_succ]
                  refine wpAnyH_take (i := 11) (oi := ⟨some 35, _, _, _, _, _⟩) (v := ?v38) rfl (by kernel_rfl) (by kernel_rfl) (by kernel_rfl) (fun _ _ _ h => h) (Or.inl ⟨by kernel_rfl, ?hy38⟩) (by assumption) ?rest38
                  case hy38 => (intro w hSw; (try dsimp only at hSw); go_simp; try with_reducible rfl)
                  case' rest38 => try simp only [Act.put, List.setIfInBounds_toArray, List.set_cons_zero, List.set_cons_succ]
                  refine wpAnyH_take (i := 12) (oi := ⟨some 36, _, _, _, _, _⟩) (v := ?v39) rfl (by kernel_rfl) (by kernel_rfl) (by kernel_rfl) (fun _ _ _ h => h) (Or.inl ⟨by kernel_rfl, ?hy39⟩) (by assumption) ?rest39
                  case hy39 => (intro w hSw; (try dsimp only at hSw); go_simp; try with_reducible rfl)
                  case' rest39 => try simp only [Act.put, List.setIfInBounds_toArray, List.set_cons_zero, List.set_cons_succ]
                  refine wpAnyH_take (i := 13) (oi := ⟨some 37, _, _, _, _, _⟩) (v := ?v40) rfl (by kernel_rfl) (by kernel_rfl) (by kernel_rfl) (fun _ _ _ h => h) (Or.inl ⟨by kernel_rfl, ?hy40⟩) (by assumption) ?rest40
                  case hy40 => (intro w hSw; (try dsimp only at hSw); go_simp; try with_reducible rfl)
                  case' rest40 => try simp only [Act.put, List.setIfInBounds_toArray, List.set_cons_zero, List.set_cons_succ]
                  refine wpAnyH_take (i := 14) (oi := ⟨some 38, _, _, _, _, _⟩) (v := ?v41) rfl (by kernel_rfl) (by kernel_rfl) (by kernel_rfl) (fun _ _ _ h => h) (Or.inl ⟨by kernel_rfl, ?hy41⟩) (by assumption) ?rest41
                  case hy41 => (intro w hSw; (try dsimp only at hSw); go_simp; try with_reducible rfl)
                  case' rest41 => try simp only [Act.put, List.setIfInBounds_toArray, List.set_cons_zero, List.set_cons_succ]
                  refine wpAnyH_take (i := 15) (oi := ⟨some 39, _, _, _, _, _⟩) (v := ?v42) rfl (by kernel_rfl) (by kernel_rfl) (by kernel_rfl) (fun _ _ _ h => h) (Or.inl ⟨by kernel_rfl, ?hy42⟩) (by assumption) ?rest42
                  case hy42 => (intro w hSw; (try dsimp only at hSw); go_simp; try with_reducible rfl)
                  case' rest42 => try simp only [Act.put, List.setIfInBounds_toArray, List.set_cons_zero, List.set_cons_succ]
                  refine wpAnyH_ready (rs := [16]) (by kernel_rfl) (by simp) ?_
                  refine AllReadyH.cons (o := ⟨some 40, _, _, _, _, _⟩) rfl (fun K hK => ?_) AllReadyH.nil
                  go_simp
                  go_at_call 25
                  refine (hasC.out _ _ hS1).mono ?_
                  rintro e w1 ⟨rfl, hS2⟩
                  go_wp2_with fail
                  refine hK.out _ _ hS2 (fun hHeld => ?_)
                  clear hK K
                  try simp only [Act.put, List.setIfInBounds_toArray, List.set_cons_zero, List.set_cons_succ]
                  refine wpAnyH_take (i := 17) (oi := ⟨some 41, _, _, _, _, _⟩) (v := ?v43) rfl (by kernel_rfl) (by kernel_rfl) (by kernel_rfl) (fun _ _ _ h => h) (Or.inl ⟨by kernel_rfl, ?hy43⟩) (by assumption) ?rest43
                  case hy43 => (intro w hSw; (try dsimp only at hSw); go_simp; try with_reducible rfl)
                  case' rest43 => try simp only [Act.put, List.setIfInBounds_toArray, List.set_cons_zero, List.set_cons_succ]
                  refine wpAnyH_take (i := 18) (oi := ⟨some 42, _, _, _, _, _⟩) (v := ?v44) rfl (by kernel_rfl) (by kernel_rfl) (by kernel_rfl) (fun _ _ _ h => h) (Or.inl ⟨by kernel_rfl, ?hy44⟩) (by assumption) ?rest44
                  case hy44 => (intro w hSw; (try dsimp only at hSw); go_simp; try with_reducible rfl)
                  case' rest44 => try simp only [Act.put, List.setIfInBounds_toArray, List.set_cons_zero, List.set_cons_succ]
                  refine wpAnyH_take (i := 19) (oi := ⟨some 43, _, _, _, _, _⟩) (v := undef) rfl (by kernel_rfl) (by kernel_rfl) (by kernel_rfl) (fun _ _ _ h => h) (Or.inr ⟨by kernel_rfl, rfl⟩) (by assumption) ?rest45
                  case' rest45 => try simp only [Act.put, List.setIfInBounds_toArray, List.set_cons_zero, List.set_cons_succ]
                  refine wpAnyH_take (i := 20) (oi := ⟨some 44, _, _, _, _, _⟩) (v := undef) rfl (by kernel_rfl) (by kernel_rfl) (by kernel_rfl) (fun _ _ _ h => h) (Or.inr ⟨by kernel_rfl, rfl⟩) (by assumption) ?rest46
                  case' rest46 => try simp only [Act.put, List.setIfInBounds_toArray, List.set_cons_zero, List.set_cons_succ]
                  refine wpAnyH_take (i := 21) (oi := ⟨some 45, _, _, _, _, _⟩) (v := undef) rfl (by kernel_rfl) (by kernel_rfl) (by kernel_rfl) (fun _ _ _ h => h) (Or.inr ⟨by kernel_rfl, rfl⟩) (by assumption) ?rest47
                  case' rest47 => try simp only [Act.put, List.setIfInBounds_toArray, List.set_cons_zero, List.set_cons_succ]
                  refine wpAnyH_take (i := 22) (oi := ⟨some 46, _, _, _, _, _⟩) (v := undef) rfl (by kernel_rfl) (by kernel_rfl) (by kernel_rfl) (fun _ _ _ h => h) (Or.inr ⟨by kernel_rfl, rfl⟩) (by assumption) ?rest48
                  case' rest48 => try simp only [Act.put, List.setIfInBounds_toArray, List.set_cons_zero, List.set_cons_succ]
                  refine wpAnyH_take (i := 23) (oi := ⟨some 47, _, _, _, _, _⟩) (v := undef) rfl (by kernel_rfl) (by kernel_rfl) (by kernel_rfl) (fun _ _ _ h => h) (Or.inr ⟨by kernel_rfl, rfl⟩) (by assumption) ?rest49
                  case' rest49 => try simp only [Act.put, List.setIfInBounds_toArray, List.set_cons_zero, List.set_cons_succ]
                  refine wpAnyH_take (i := 24) (oi := ⟨some 48, _, _, _, _, _⟩) (v := undef) rfl (by kernel_rfl) (by kernel_rfl) (by kernel_rfl) (fun _ _ _ h => h) (Or.inr ⟨by kernel_rfl, rfl⟩) (by assumption) ?rest50
                  case' rest50 => try simp only [Act.put, List.setIfInBounds_toArray, List.set_cons_zero, List.set_cons_succ]
                  refine wpAnyH_take (i := 25) (oi := ⟨some 49, _, _, _, _, _⟩) (v := undef) rfl (by kernel_rfl) (by kernel_rfl) (by kernel_rfl) (fun _ _ _ h => h) (Or.inr ⟨by kernel_rfl, rfl⟩) (by assumption) ?rest51
                  case' rest51 => try simp only [Act.put, List.setIfInBounds_toArray, List.set_cons_zero, List.set_cons_succ]
                  refine wpAnyH_take (i := 26) (oi := ⟨some 50, _, _, _, _, _⟩) (v := undef) rfl (by kernel_rfl) (by kernel_rfl) (by kernel_rfl) (fun _ _ _ h => h) (Or.inr ⟨by kernel_rfl, rfl⟩) (by assumption) ?rest52
                  case' rest52 => try simp only [Act.put, List.setIfInBounds_toArray, List.set_cons_zero, List.set_cons_succ]
                  refine wpAnyH_take (i := 27) (oi := ⟨some 51, _, _, _, _, _⟩) (v := ?v53) rfl (by kernel_rfl) (by kernel_rfl) (by kernel_rfl) (fun _ _ _ h => h) (Or.inl ⟨by kernel_rfl, ?hy53⟩) (by assumption) ?rest53
                  case hy53 => (intro w hSw; (try dsimp only at hSw); go_simp; try with_reducible rfl)
                  case' rest53 => try simp only [Act.put, List.setIfInBounds_toArray, List.set_cons_zero, List.set_cons_succ]
                  refine wpAnyH_done (by kernel_rfl) ?_ _
                  have hS9 := hHeld
                  obtain ⟨_, _, _, _, _, _, _, _, _, _, _, _, _, _, _, _, hB⟩ := hS9
                  have hbw1 : Below w.heap.size w w1 := (hbw.drew).trans (hB.mono hbs)
                  have hown1 := hown.below ((Below.refl wr.heap.size wr).drew.trans hB)
                  clear hS0 hHeld
                  have HBX := Lib.hid hbx
                  clear hbx
                  go_wp2
                  go_roundw
                  case rel => exact ⟨m + 1, out, gb, by omega, by go_num, rfl, hown1, hbw1, hG.skip (by rw [HX.out]; intro _ h; have e := HBX.out; rw [HB.out] at e; exact absurd h (by simpa using e))⟩
                  case measure => simp [intOf]; omega
                · rcases hby : bz y.f with _ | _
                  · go_wp2_with fail
                    go_region_held3 (fun w' : World => w'.cell? ⟨b, off + k * 8, none⟩ = some (.int .i64 x.f) ∧ w'.cell? ⟨b, off + k * 8 + 1, none⟩ = some (.int .i64 x.x0) ∧ w'.cell? ⟨b, off + k * 8 + 2, none⟩ = some (.int .i64 x.y0) ∧ w'.cell? ⟨b, off + k * 8 + 3, none⟩ = some (.int .i64 x.x1) ∧ w'.cell? ⟨b, off + k * 8 + 4, none⟩ = some (.int .i64 x.y1) ∧ w'.cell? ⟨b, off + k * 8 + 5, none⟩ = some (.int .i64 x.ax) ∧ w'.cell? ⟨b, off + k * 8 + 6, none⟩ = some (.int .i64 x.ay) ∧ w'.cell? ⟨b, off + k * 8 + 7, none⟩ = some (.int .i64 x.co) ∧ w'.cell? ⟨b, off + m * 8, none⟩ = some (.int .i64 y.f) ∧ w'.cell? ⟨b, off + m * 8 + 1, none⟩ = some (.int .i64 y.x0) ∧ w'.cell? ⟨b, off + m * 8 + 2, none⟩ = some (.int .i64 y.y0) ∧ w'.cell? ⟨b, off + m * 8 + 3, none⟩ = some (.int .i64 y.x1) ∧ w'.cell? ⟨b, off + m * 8 + 4, none⟩ = some (.int .i64 y.y1) ∧ w'.cell? ⟨b, off + m * 8 + 5, none⟩ = some (.int .i64 y.ax) ∧ w'.cell? ⟨b, off + m * 8 + 6, none⟩ = some (.int .i64 y.ay) ∧ w'.cell? ⟨b, off + m * 8 + 7, none⟩ = some (.int .i64 y.co) ∧ Below wr.drew.heap.size wr.drew w') (first | exact hS1 | exact hS0)
                      (first
                        | (go_at_call 30; refine (hitC.out _ (by first | exact hS1 | exact hS0)).mono ?_; rintro e w1 ⟨rfl, hS1⟩)
                        | (go_at_call 25; refine (hasC.out _ _ (by first | exact hS1 | exact hS0)).mono ?_; rintro e w1 ⟨rfl, hS1⟩))
                    have hS9 := hS1
                    obtain ⟨_, _, _, _, _, _, _, _, _, _, _, _, _, _, _, _, hB⟩ := hS9
                    have hbw1 : Below w.heap.size w w1 := (hbw.drew).trans (hB.mono hbs)
                    have hown1 := hown.below ((Below.refl wr.heap.size wr).drew.trans hB)
                    clear hS0
                    have HBX := Lib.hid hbx
                    have HBY := Lib.hid hby
                    have cy := CY.out w1 hB
                    clear hbx hby
                    have hs1 := hbw1.size
                    have hbo := hG.bound
                    go_wp2_with (at_builtin; refine Try.appI hown1 y.f rfl _ _ rfl rfl rfl (by omega) hs1 ?_; clear hown1; intro v2 w2 hown2 hb2)
                    go_roundw
                    case rel => exact ⟨m + 1, out ++ [y.f], true, by omega, by go_num, rfl, hown2, hbw1.trans hb2, by
                      have q := hG.add hlk hlm (by rw [HX.out, HY.out]; exact HV.out) (by rw [HX.out]; have e := HBX.out; rw [HB.out] at e; simpa using e) (by rw [HY.out]; have e := HBY.out; rw [HB.out] at e; simpa using e)
                      rwa [HY.out] at q⟩
                    case measure => simp [intOf]; omega
                  · go_wp2_with fail
                    go_region_held3 (fun w' : World => w'.cell? ⟨b, off + k * 8, none⟩ = some (.int .i64 x.f) ∧ w'.cell? ⟨b, off + k * 8 + 1, none⟩ = some (.int .i64 x.x0) ∧ w'.cell? ⟨b, off + k * 8 + 2, none⟩ = some (.int .i64 x.y0) ∧ w'.cell? ⟨b, off + k * 8 + 3, none⟩ = some (.int .i64 x.x1) ∧ w'.cell? ⟨b, off + k * 8 + 4, none⟩ = some (.int .i64 x.y1) ∧ w'.cell? ⟨b, off + k * 8 + 5, none⟩ = some (.int .i64 x.ax) ∧ w'.cell? ⟨b, off + k * 8 + 6, none⟩ = some (.int .i64 x.ay) ∧ w'.cell? ⟨b, off + k * 8 + 7, none⟩ = some (.int .i64 x.co) ∧ w'.cell? ⟨b, off + m * 8, none⟩ = some (.int .i64 y.f) ∧ w'.cell? ⟨b, off + m * 8 + 1, none⟩ = some (.int .i64 y.x0) ∧ w'.cell? ⟨b, off + m * 8 + 2, none⟩ = some (.int .i64 y.y0) ∧ w'.cell? ⟨b, off + m * 8 + 3, none⟩ = some (.int .i64 y.x1) ∧ w'.cell? ⟨b, off + m * 8 + 4, none⟩ = some (.int .i64 y.y1) ∧ w'.cell? ⟨b, off + m * 8 + 5, none⟩ = some (.int .i64 y.ax) ∧ w'.cell? ⟨b, off + m * 8 + 6, none⟩ = some (.int .i64 y.ay) ∧ w'.cell? ⟨b, off + m * 8 + 7, none⟩ = some (.int .i64 y.co) ∧ Below wr.drew.heap.size wr.drew w') (first | exact hS1 | exact hS0)
                      (first
                        | (go_at_call 30; refine (hitC.out _ (by first | exact hS1 | exact hS0)).mono ?_; rintro e w1 ⟨rfl, hS1⟩)
                        | (go_at_call 25; refine (hasC.out _ _ (by first | exact hS1 | exact hS0)).mono ?_; rintro e w1 ⟨rfl, hS1⟩))
                    have hS9 := hS1
                    obtain ⟨_, _, _, _, _, _, _, _, _, _, _, _, _, _, _, _, hB⟩ := hS9
                    have hbw1 : Below w.heap.size w w1 := (hbw.drew).trans (hB.mono hbs)
                    have hown1 := hown.below ((Below.refl wr.heap.size wr).drew.trans hB)
                    clear hS0
                    have HBY := Lib.hid hby
                    clear hbx hby
                    go_wp2
                    go_roundw
                    case rel => exact ⟨m + 1, out, gb, by omega, by go_num, rfl, hown1, hbw1, hG.skip (by rw [HY.out]; intro _ _; have e := HBY.out; rw [HB.out] at e; simpa using e)⟩
                    case measure => simp [intOf]; omega

            · obtain rfl : m = l.length := by omega
              go_wp2
              go_roundw
              case rel => exact ⟨k + 1, out, gb, by omega, by go_num, rfl, hown, hbw, hG.row⟩
              case measure => simp [intOf]; omega
        · obtain rfl : k = l.length := by omega
          have hbo := hG.bound
          have hgr := hG.grow
          obtain ⟨A2, c2', rfl⟩ := Own.slice hown
          go_wp2
          go_roundw
          case rel => exact ⟨out, gb, rfl, hown, hbw, ⟨hG.start, hG.conn, hG.bound, by omega, hG.closed⟩⟩
          case measure =>
            rcases gb with _ | _ <;> simp [lenOfV, boolOfV] at hgr ⊢ <;> omega
end Go.Proofs
