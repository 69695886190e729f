import Derived.Test.YtoknjlodhohioaaT6
set_option linter.unusedVariables false
set_option linter.unusedSimpArgs false
namespace Go.Proofs
open Go.RowKit Go.Proofs.Mp

theorem rd_lit {α : Type} [Inhabited α] {k : Nat} {enc : α → List Value} (hk : ∀ x, (enc x).length = k) (w : World) (cs : Array Value) (t : TypeId) (xs : List α) (h : cs = (xs.flatMap enc).toArray) : Rd k enc (w.alloc (.cells cs t)) (some ⟨w.heap.size, 0, none⟩) xs := by
  subst h
  exact Row.rd hk (heap_alloc_new w _)
theorem encSl_len (s : Option Addr × Nat × List Int) : (encSl s).length = 1 := rfl

/-- the set of one list -/
theorem idset_normal_c (A : Option Addr) (c : Nat) (zs : List Int) (w : World) (h1 : zs.length ≤ 1000000000000) (hA : RdI w A zs) :
    Calls Try.prog 29 #[.slice A zs.length c] w (RetRc 1 Mp.encI w (setL zs)) := by
  have hb0 : Below w.heap.size w (w.alloc (.cells #[.slice A zs.length c] 38)) := (Below.refl _ _).alloc (Nat.le_refl _) _
  have cC := collect_any (some ⟨w.heap.size, 0, none⟩) 1 [(A, c, zs)] (w.alloc (.cells #[.slice A zs.length c] 38)) (by simp) (by simpa [sumL] using h1)
    (rd_lit encSl_len w _ 38 [(A, c, zs)] rfl) (fun s hs => by simp at hs; subst hs; exact hA.below hb0)
  have e1 : catL [(A, c, zs)] = zs := by simp [catL]
  rw [e1] at cC
  simp only [List.length_cons, List.length_nil, Nat.zero_add] at cC
  generalize setL zs = st at *
  go_enter Try.func29, Try.ntmps29
  go_wp2_with fail
  refine cC.mono ?_
  rintro e w1 ⟨v1, rfl, hh1, hb1⟩
  go_wp2
  go_ret
  exact hh1.ret (hb0.trans (hb1.mono hb0.size))

end Go.Proofs
