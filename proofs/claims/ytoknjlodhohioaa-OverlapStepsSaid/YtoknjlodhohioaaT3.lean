import Derived.Test.YtoknjlodhohioaaT2
import Derived.Test.YtoknjlodhohioaaB2
set_option linter.unusedVariables false
set_option linter.unusedSimpArgs false
namespace Go.Proofs
open Go.RowKit Go.Proofs.Mp

theorem Mp.info_parts {P : Program} {t : TypeId} {z : Value} {s b : Nat} (h : (P.info? t).map (fun i => (i.zero, i.size, i.bytes)) = some (some z, s, b)) : ∃ i, P.info? t = some i ∧ i.zero = some z ∧ i.size = s ∧ i.bytes = b := by
  cases hi : P.info? t with
  | none => rw [hi] at h; simp at h
  | some i =>
    rw [hi] at h
    simp at h
    exact ⟨i, rfl, h.1, h.2.1, h.2.2⟩
theorem Try.infoI : (Try.prog.info? 3).map (fun i => (i.zero, i.size, i.bytes)) = some (some (.int .i64 0), 1, 8) := by kernel_rfl

/-- slices.Grow of the nil slice: a row of the call's own with no element yet -/
theorem grow_nil (n : Nat) (w : World) (hn : n ≤ 1000000000000) :
    Calls Try.prog 40 #[.slice none 0 0, .int .i64 n] w (fun e w' => ∃ v, e = .returned v ∧ OwnI 3 w' w.heap.size v [] ∧ Below w.heap.size w w') := by
  by_cases h0 : n = 0
  · subst h0
    exact (Any8.slices_Grow_room Try.growI none 0 0 0 w (by omega) (by omega) (by omega) (by omega)).mono fun e w' ⟨he, hw⟩ => by
      subst hw
      exact ⟨_, he, Own.nil _ _, Below.refl _ _⟩
  · obtain ⟨i0, hi, hz, hs, hb⟩ := Mp.info_parts Try.infoI
    refine (Any8.slices_Grow_grow Try.growI i0 _ hi hz (by omega) none 0 0 n [] w (by omega) (by omega) (by rw [hb]; omega) (by omega) (by simp) (by simp) (by simp)).mono fun e w' ⟨he, hw⟩ => ?_
    subst hw
    have hge := grownCap_ge w (0 + n) 0 3
    have hle := grownCap_le_maxLen w (0 + n) 0 3 (by unfold maxLen; omega)
    refine ⟨_, he, ⟨by simp, .inr ⟨w.heap.size, _, _, rfl, Nat.le_refl _, heap_alloc_new _ _, Nat.zero_le _, hle, ?_, by simp⟩⟩, ?_⟩
    · show (_ : Array Value).size = _
      simp only [Array.size_append, size_zeroCells]
      have e3 : (grownCap w (0 + n) 0 (Try.growI_ren.t 25)) = grownCap w (0 + n) 0 3 := rfl
      rw [e3]
      have e1 : (Value.int IntKind.i64 0).cells.size = 1 := rfl
      rw [e1]
      have hg2 : 0 + n ≤ grownCap w (0 + n) 0 3 := grownCap_ge w (0 + n) 0 3
      generalize grownCap w (0 + n) 0 3 = G at *
      simp
      omega
    · exact ((Below.refl _ _).drew).alloc (Nat.le_refl _) _
end Go.Proofs
