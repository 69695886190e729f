import Derived.Test.YtafaojmkbbhjmaaS9
set_option linter.unusedVariables false
set_option linter.unusedSimpArgs false
namespace Go.Proofs
open Go.RowKit Go.Proofs.Mp

theorem rd_head {w : World} {A : Option Addr} {r : Int × Int} {rs : List (Int × Int)} (h : Rd 2 encR w A (r :: rs)) :
    ∃ b off, A = some ⟨b, off, none⟩ ∧ b < w.heap.size ∧ Hid (∀ wr : World, Below w.heap.size w wr → wr.cell? ⟨b, off, none⟩ = some (.int .i64 r.1) ∧ wr.cell? ⟨b, off + 1, none⟩ = some (.int .i64 r.2)) ∧ Rd 2 encR w (some ⟨b, off + 2, none⟩) rs := by
  obtain ⟨b, off, hA, h1, h2, h3⟩ := RdR.get h (Below.refl _ _) (j := 0) (by simp)
  subst hA
  have hd := Rd.drop h (by simp) 1
  refine ⟨b, off, rfl, h1, fun wr hb => ⟨(hb.cell (p := ⟨b, off, none⟩) h1).trans (by simpa using h2), (hb.cell (p := ⟨b, off + 1, none⟩) h1).trans (by simpa using h3)⟩, ?_⟩
  have e : (⟨b, off, none⟩ : Addr).add (1 * 2) = ⟨b, off + 2, none⟩ := by simp [Addr.add]
  rw [e] at hd
  simpa using hd

def lenOfV : Value → Nat | .slice _ n _ => n | _ => 0
end Go.Proofs
