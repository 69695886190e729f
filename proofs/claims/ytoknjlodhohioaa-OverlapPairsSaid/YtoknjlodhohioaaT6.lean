import Derived.Test.YtoknjlodhohioaaT5
set_option linter.unusedVariables false
set_option linter.unusedSimpArgs false
namespace Go.Proofs
open Go.RowKit Go.Proofs.Mp

/-- the set of a list: ascending, without repetitions -/
def setL (zs : List Int) : List Int := Lib.compact (zs.mergeSort fun x y => decide (x ≤ y))
theorem setL_len (zs : List Int) : (setL zs).length ≤ zs.length := by
  have := Lib.compact_length_le (zs.mergeSort fun x y => decide (x ≤ y))
  rwa [List.length_mergeSort] at this

set_option maxHeartbeats 1000000 in
/-- idset.collect -/
theorem collect_any (A : Option Addr) (c : Nat) (ls : List (Option Addr × Nat × List Int)) (w : World) (h1 : ls.length ≤ 1000000) (h2 : sumL ls ≤ 1000000000000) (hA : RdS w A ls) (hS : ∀ s ∈ ls, RdI w s.1 s.2.2) :
    Calls Try.prog 34 #[.slice A ls.length c] w (fun e w' => ∃ v, e = .returned v ∧ HeldI w' w.heap.size v (setL (catL ls)) ∧ Below w.heap.size w w') := by
  have cC := concat_any A c ls w h1 h2 hA hS
  have hl := cat_len ls
  have hm := Lib.hid (show setL (catL ls) = Lib.compact ((catL ls).mergeSort fun x y => decide (x ≤ y)) from rfl)
  have hl2 : ((catL ls).mergeSort fun x y => decide (x ≤ y)).length ≤ 1000000000000 := by rw [List.length_mergeSort]; omega
  have cS := Lib.hid (fun (W : World) (v : Value) (h : HeldI W w.heap.size v (catL ls)) => sort_held h (by omega))
  have cK := Lib.hid (fun (W : World) (v : Value) (h : HeldI W w.heap.size v ((catL ls).mergeSort fun x y => decide (x ≤ y))) => compact_held h hl2)
  generalize ((catL ls).mergeSort fun x y => decide (x ≤ y)) = ms at *
  generalize setL (catL ls) = st at *
  generalize catL ls = xs at *
  go_enter Try.func34, Try.ntmps34
  go_wp2_with fail
  refine cC.mono ?_
  rintro e w1 ⟨v1, rfl, hown1, hb1⟩
  have hh1 := own_held hown1
  clear hown1
  go_wp2_with fail
  refine (cS.out w1 v1 hh1).mono ?_
  rintro e w2 ⟨rfl, hh2, hb2⟩
  have k2 := hb1.trans (hb2 hb1.size)
  go_wp2_with fail
  refine (cK.out w2 v1 hh2).mono ?_
  rintro e w3 ⟨v3, rfl, hh3, hb3⟩
  have k3 := k2.trans (hb3 k2.size)
  go_wp2
  go_ret
  exact ⟨_, rfl, by rw [hm.out]; exact hh3, k3⟩

theorem HeldI.ret {w w' : World} {base : Nat} {v : Value} {xs : List Int} (h : HeldI w' base v xs) (hb : Below w.heap.size w w') : RetRc 1 Mp.encI w xs (.returned v) w' := by
  have h0 := h
  rcases h with ⟨A, c, rfl, rfl⟩ | ⟨g, c, rfl, _, _, hc, _⟩
  · exact ⟨A, c, rfl, Nat.zero_le _, Rd.nil _, hb⟩
  · exact ⟨_, c, rfl, hc, (held_rd h0).2, hb⟩
end Go.Proofs
