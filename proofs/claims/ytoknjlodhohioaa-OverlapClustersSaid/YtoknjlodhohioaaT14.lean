import Derived.Test.YtoknjlodhohioaaT13
import Derived.Test.YtoknjlodhohioaaU3
set_option linter.unusedVariables false
set_option linter.unusedSimpArgs false
namespace Go.Proofs
open Go.RowKit Go.Proofs.Mp Go.Proofs.Uf

theorem Try.zero3 (w : World) : (zeroValue 3).run Try.prog w = .ok (.int .i64 0) w := by kernel_rfl

def wfs (F : List Int) : Prop := ∀ x ∈ F, (Lit.int .i64 x).wf = true
/-- the captured cell leads to the map of parents, by which each feature's root is that of ρ -/
def GS (w : World) (g B N : Nat) (F : List Int) (ρ : Int → Int) : Prop := w.cell? ⟨g, 0, none⟩ = some (.map (some B)) ∧ g ≠ B ∧ ∃ p, MapF Try.prog 3 w B N (fun x => x ∈ F) p ∧ UF F p ρ

theorem wf_range {x : Int} (h : (Lit.int .i64 x).wf = true) : -9223372036854775808 ≤ x ∧ x ≤ 9223372036854775807 := by
  simp only [Lit.wf, Bool.and_eq_true, decide_eq_true_eq] at h
  exact h

theorem MapF.reF {w : World} {B N : Nat} {F : List Int} {x : Int} {p : Int → Int} (hx : x ∈ F) (h : MapF Try.prog 3 w B N (fun z => z = x ∨ z ∈ F) p) : MapF Try.prog 3 w B N (fun z => z ∈ F) p :=
  h.keys_iff fun z => by constructor; · rintro (rfl | h) <;> assumption
                         · exact .inr

theorem GS.block {w : World} {g B N : Nat} {F : List Int} {ρ : Int → Int} (h : GS w g B N F ρ) : g < w.heap.size ∧ B < w.heap.size := by
  obtain ⟨h1, _, p, h2, _⟩ := h
  exact ⟨World.block_lt_of_cell? w _ h1, h2.lt⟩

theorem cell_grown {w w' : World} {g B : Nat} {v : Value} (hg : w.grownBy w' (some B)) (hne : g ≠ B) (h : w.cell? ⟨g, 0, none⟩ = some v) : w'.cell? ⟨g, 0, none⟩ = some v := by
  have hlt : g < w.heap.size := World.block_lt_of_cell? w _ h
  have hb := hg.block g hlt (by simpa using hne)
  unfold World.cell? at h ⊢
  simp only at h ⊢
  rw [hb]; exact h

def FirstPost (w : World) (g B N : Nat) (F : List Int) (ρ : Int → Int) (x : Int) (e : Ending) (w' : World) : Prop := e = .returned (.int .i64 (ρ x)) ∧ GS w' g B N F ρ ∧ w.grownBy w' (some B)

set_option maxHeartbeats 1000000 in
theorem first_any (g B N : Nat) (F : List Int) (ρ : Int → Int) (hwf : wfs F) (hN : N ≤ 1000000) (x : Int) (hx : x ∈ F) (w : World) (hG : GS w g B N F ρ) :
    Calls Try.prog 28 #[.int .i64 x, .pointer (some ⟨g, 0, none⟩)] w (FirstPost w g B N F ρ x) := by
  have hNm : N < maxLen := by unfold maxLen; omega
  go_enter Try.func28, Try.ntmps28
  go_wp2_with fail
  go_loopw [0] (fun v wr => ∃ y, y ∈ F ∧ v = .int .i64 y ∧ ρ y = ρ x ∧ GS wr g B N F ρ ∧ w.grownBy wr (some B)) (fun v _ => (intOf v + 9223372036854775808).toNat)
  case atStart => exact ⟨x, hx, rfl, rfl, hG, World.grownBy.refl _ _⟩
  case round =>
    obtain ⟨y, hy, rfl, hρ, ⟨hc, hgB, p, hM, hU⟩, hgr⟩ := hrel
    have hpy := (hU.1 y hy).1
    have hppy := (hU.1 _ hpy).1
    by_cases he : p y = y
    · have hr := hU.here hy he
      go_wp2_with (at_lookup; refine MapF.look hM rfl _ _ rfl Try.underlying51 Try.underlying3 (Try.zero3 _) rfl _ rfl (hwf _ hy) hy ?_; rw [he])
      go_ret
      exact ⟨by rw [← hρ, hr]; rfl, ⟨hc, hgB, p, hM, hU⟩, hgr⟩
    · have hlow := wf_range (hwf _ hppy)
      have hle1 := (hU.1 y hy).2
      have hle2 := (hU.1 _ hpy).2
      have hlt : p (p y) < y := by omega
      have hU' := hU.halve hy
      have hρ' : ρ (p (p y)) = ρ x := by rw [hU.up hpy, hU.up hy, hρ]
      obtain ⟨z, hz⟩ : ∃ z, p (p y) = z := ⟨_, rfl⟩
      rw [hz] at hppy hlow hlt hU' hρ'
      obtain ⟨q, hq⟩ : ∃ q, p y = q := ⟨_, rfl⟩
      have hneq : (q != y) = true := by rw [← hq]; simpa using he
      rw [hq] at hpy hz
      have HQ := Lib.hid hq
      have HZ := Lib.hid hz
      have hup : Hid (upd p y z y = z) := Lib.hid (upd_same p y z)
      clear hq hz he hle1 hle2
      go_wp2_with (first
        | (at_lookup; refine MapF.look hM rfl _ _ rfl Try.underlying51 Try.underlying3 (Try.zero3 _) rfl y rfl (hwf _ hy) hy ?_; rw [HQ.out])
        | (at_lookup; refine MapF.look hM rfl _ _ rfl Try.underlying51 Try.underlying3 (Try.zero3 _) rfl q rfl (hwf _ hpy) hpy ?_; rw [HZ.out])
        | (at_mapUpdate; refine MapF.store hM rfl _ _ _ rfl Try.underlying51 Try.underlying3 rfl y z rfl rfl (hwf _ hy) (hwf _ hppy) (.inl ⟨hy, Nat.le_refl _⟩) hNm ?_; intro w1 hM1 hg1; replace hM1 := MapF.reF hy hM1; have hc1 : w1.cell? ⟨g, 0, none⟩ = some (.map (some B)) := cell_grown hg1 hgB hc)
        | (at_lookup; refine MapF.look hM1 rfl _ _ rfl Try.underlying51 Try.underlying3 (Try.zero3 _) rfl y rfl (hwf _ hy) hy ?_; rw [hup.out]))
      go_roundw
      case rel => exact ⟨z, hppy, rfl, hρ', ⟨hc1, hgB, _, hM1, hU'⟩, hgr.trans hg1⟩
      case measure => simp [intOf]; omega
end Go.Proofs
