import Derived.Test.YtafaojmkbbhjmaaA9
set_option linter.unusedVariables false
set_option linter.unusedSimpArgs false
namespace Go.Proofs
open Go.RowKit Go.Proofs.Mp

/-- the elements xs put into the set o, one after the other -/
def putL (o xs : List Int) : List Int := xs.foldl withL o
theorem putL_take {o xs : List Int} {k : Nat} (h : k < xs.length) : putL o (xs.take (k + 1)) = withL (putL o (xs.take k)) xs[k]! := foldl_take_succ _ _ _ _ h
theorem putL_len (o : List Int) : ∀ xs : List Int, (putL o xs).length ≤ o.length + xs.length := by
  intro xs
  induction xs generalizing o with
  | nil => simp [putL]
  | cons x xs ih =>
    have := ih (withL o x)
    have h2 := withL_len o x
    show (putL (withL o x) xs).length ≤ _
    simp only [List.length_cons]
    omega
theorem putL_asc {o : List Int} : ∀ xs : List Int, Asc o → Asc (putL o xs) := by
  intro xs
  induction xs generalizing o with
  | nil => exact fun h => h
  | cons x xs ih => exact fun h => ih (withL_asc x h)
theorem putL_mem (o : List Int) : ∀ (xs : List Int) (x : Int), x ∈ putL o xs ↔ x ∈ o ∨ x ∈ xs := by
  intro xs
  induction xs generalizing o with
  | nil => simp [putL]
  | cons y ys ih =>
    intro x
    show x ∈ putL (withL o y) ys ↔ _
    rw [ih, withL_mem, List.mem_cons]
    constructor
    · rintro ((h | h) | h) <;> simp [h]
    · rintro (h | h | h) <;> simp [h]
theorem putL_filter_take {o : List Int} (p : Int → Bool) {xs : List Int} {k : Nat} (h : k < xs.length) : putL o ((xs.take (k + 1)).filter p) = if p xs[k]! then withL (putL o ((xs.take k).filter p)) xs[k]! else putL o ((xs.take k).filter p) := by
  rw [filter_take_succ p xs k h]
  by_cases hp : p xs[k]! = true
  · rw [if_pos hp, if_pos hp]; simp [putL]
  · rw [if_neg hp, if_neg hp]; simp

/-- the value v is a slice that reads as xs -/
def SlI (w : World) (v : Value) (xs : List Int) : Prop := ∃ A c, v = .slice A xs.length c ∧ xs.length ≤ c ∧ RdI w A xs
theorem SlI.below {w w' : World} {v : Value} {xs : List Int} (h : SlI w v xs) (hb : Below w.heap.size w w') : SlI w' v xs := by
  obtain ⟨A, c, hv, hc, hR⟩ := h
  exact ⟨A, c, hv, hc, hR.below hb⟩

set_option maxHeartbeats 1000000 in
theorem ref_normal (A : Option Addr) (c : Nat) (l : List Int) (w : World) (hmax : l.length ≤ 100000000) (hR : RdI w A l) :
    Calls Try.prog 62 #[.slice A l.length c] w (RetRc 1 Mp.encI w (putL [] l)) := by
  have hb0 : Below w.heap.size w (w.alloc (.cells #[] 3)) := (Below.refl _ _).alloc (Nat.le_refl _) _
  have hN0 : SlI (w.alloc (.cells #[] 3)) (.slice (some ⟨w.heap.size, 0, none⟩) 0 0) [] := ⟨_, 0, rfl, Nat.le_refl _, Rd.nil _⟩
  go_enter Try.func62, Try.ntmps62
  go_wp2_with fail
  go_loopw [3, 4] (fun v i wr => ∃ k : Nat, k ≤ l.length ∧ i = .int .i64 k ∧ SlI wr v (putL [] (l.take k)) ∧ Below w.heap.size w wr) (fun _ i _ => l.length - (intOf i).toNat)
  case atStart => exact ⟨0, by omega, rfl, hN0, hb0⟩
  case round =>
    obtain ⟨k, hk, rfl, ⟨A', c', rfl, hc', hRo⟩, hbw⟩ := hrel
    by_cases hlt : k < l.length
    · obtain ⟨b, off, rfl, hb, g1⟩ := RdI.get hR hbw hlt
      have HX := Lib.hid (putL_take (o := []) hlt)
      have hle := putL_len [] (l.take k)
      have hle2 : (l.take k).length ≤ l.length := by simp; omega
      generalize l[k]! = x at *
      generalize putL [] (l.take k) = o at *
      simp only [List.length_nil] at hle
      have cW := ref_with A' c' x o wr hc' (by omega) hRo
      have hs := hbw.size
      go_wp2_with fail
      refine cW.mono ?_
      rintro e w1 ⟨A2, c2, rfl, hc2, hR2, hb2⟩
      go_wp2
      go_roundw
      case rel => exact ⟨k + 1, by omega, by go_num, by rw [HX.out]; exact ⟨A2, c2, rfl, hc2, hR2⟩, hbw.trans (hb2.mono hs)⟩
      case measure => simp [intOf]; omega
    · obtain rfl : k = l.length := by omega
      simp only [List.take_length] at hRo hc' ⊢
      go_wp2
      go_ret
      exact ⟨A', c', rfl, hc', hRo, hbw⟩
end Go.Proofs
