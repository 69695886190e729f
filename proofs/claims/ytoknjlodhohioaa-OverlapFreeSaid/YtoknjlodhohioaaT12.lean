import Derived.Test.YtoknjlodhohioaaT10
set_option linter.unusedVariables false
set_option linter.unusedSimpArgs false
namespace Go.Proofs
open Go.RowKit Go.Proofs.Mp

theorem put_normal (zs : List Int) : putL [] zs = setL zs := Asc.unique (putL_asc zs List.Pairwise.nil) (setL_asc zs) fun x => by simp [putL_mem, setL_mem]

/-- what a call leaves that returns a list -/
def PostS (w : World) (xs : List Int) (e : Ending) (w' : World) : Prop := ∃ v, e = .returned v ∧ SlI w' v xs ∧ Below w.heap.size w w'
theorem RetRc.post {w w' : World} {xs : List Int} {e : Ending} (h : RetRc 1 Mp.encI w xs e w') : PostS w xs e w' := by
  obtain ⟨A, c, rfl, hc, hR, hb⟩ := h
  exact ⟨_, rfl, ⟨A, c, rfl, hc, hR⟩, hb⟩
section
variable {w : World} {u v : Value} {xs ys : List Int}
theorem k_normal (h : SlI w v xs) (h1 : xs.length ≤ 1000000) : Calls Try.prog 29 #[v] w (PostS w (setL xs)) := by
  obtain ⟨A, c, rfl, hc, hR⟩ := h
  exact (idset_normal_c A c xs w (by omega) hR).mono fun e w' => RetRc.post
theorem k_rnormal (h : SlI w v xs) (h1 : xs.length ≤ 1000000) : Calls Try.prog 30 #[v] w (PostS w (setL xs)) := by
  obtain ⟨A, c, rfl, hc, hR⟩ := h
  rw [← put_normal]
  exact (ref_normal A c xs w (by omega) hR).mono fun e w' => RetRc.post
theorem k_same {b : Bool} (h : SlI w u xs) (g : SlI w v ys) (h1 : xs.length ≤ 1000000) (h2 : ys.length ≤ 1000000) (hb : decide (xs = ys) = b) : Calls Try.prog 27 #[u, v] w (RetV w (.bool b)) := by
  subst hb
  obtain ⟨A, c, rfl, hc, hR⟩ := h
  obtain ⟨B, d, rfl, hd, hS⟩ := g
  exact ref_same A B c d xs ys w (by omega) (by omega) hR hS
theorem k_rvalid {b : Bool} (h : SlI w v xs) (h1 : xs.length ≤ 1000000) (hb : ascB xs = b) : Calls Try.prog 18 #[v] w (RetV w (.bool b)) := by
  subst hb
  obtain ⟨A, c, rfl, hc, hR⟩ := h
  exact ref_valid A c xs w (by omega) hR
theorem k_rhas {b : Bool} {x : Int} (h : SlI w v xs) (h1 : xs.length ≤ 1000000) (hb : decide (x ∈ xs) = b) : Calls Try.prog 33 #[v, .int .i64 x] w (RetV w (.bool b)) := by
  subst hb
  obtain ⟨A, c, rfl, hc, hR⟩ := h
  exact ref_has A c x xs w (by omega) hR
end
theorem SlI.lit (w : World) (cs : Array Value) (xs : List Int) (n : Nat) (hn : n = xs.length) (h : cs = (xs.flatMap Mp.encI).toArray) : SlI (w.alloc (.cells cs 3)) (.slice (some ⟨w.heap.size, 0, none⟩) n n) xs := by
  subst hn
  exact ⟨_, _, rfl, Nat.le_refl _, rd_lit Mp.encI_len w cs 3 xs h⟩
theorem SlI.alloc {w : World} {v : Value} {xs : List Int} (h : SlI w v xs) (o : Obj) : SlI (w.alloc o) v xs := h.below ((Below.refl _ _).alloc (Nat.le_refl _) o)
theorem setL_lit (l r : List Int) (hr : Asc r) (h : ∀ x, x ∈ l ↔ x ∈ r) : setL l = r := Asc.unique (setL_asc l) hr fun x => by rw [setL_mem, h]
end Go.Proofs
