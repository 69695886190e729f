import Derived.Test.YtpcpffljcadnkaaT11
set_option linter.unusedVariables false
set_option linter.unusedSimpArgs false
namespace Go.Proofs
open Go.RowKit Go.Proofs.Mp

def unionS (xs ys : List Int) : List Int := setL (xs ++ ys)
def interS (xs ys : List Int) : List Int := (setL xs).filter fun x => decide (x ∈ setL ys)
def minusS (xs ys : List Int) : List Int := (setL xs).filter fun x => !decide (x ∈ setL ys)

theorem unionS_asc (xs ys : List Int) : Asc (unionS xs ys) := setL_asc _
theorem interS_asc (xs ys : List Int) : Asc (interS xs ys) := List.Pairwise.filter _ (setL_asc xs)
theorem minusS_asc (xs ys : List Int) : Asc (minusS xs ys) := List.Pairwise.filter _ (setL_asc xs)
theorem unionS_mem (xs ys : List Int) (x : Int) : x ∈ unionS xs ys ↔ x ∈ xs ∨ x ∈ ys := by simp [unionS, setL_mem]
theorem interS_mem (xs ys : List Int) (x : Int) : x ∈ interS xs ys ↔ x ∈ xs ∧ x ∈ ys := by simp [interS, setL_mem]
theorem minusS_mem (xs ys : List Int) (x : Int) : x ∈ minusS xs ys ↔ x ∈ xs ∧ x ∉ ys := by simp [minusS, setL_mem]

theorem put_normal (zs : List Int) : putL [] zs = setL zs := Asc.unique (putL_asc zs List.Pairwise.nil) (setL_asc zs) fun x => by simp [putL_mem, setL_mem]
theorem put_union (xs ys : List Int) : putL (putL [] xs) ys = unionS xs ys := Asc.unique (putL_asc ys (putL_asc xs List.Pairwise.nil)) (unionS_asc xs ys) fun x => by simp [putL_mem, unionS_mem]
theorem put_inter (xs ys : List Int) : putL [] (xs.filter fun x => decide (x ∈ ys)) = interS xs ys := Asc.unique (putL_asc _ List.Pairwise.nil) (interS_asc xs ys) fun x => by simp [putL_mem, interS_mem]
theorem put_minus (xs ys : List Int) : putL [] (xs.filter fun x => !decide (x ∈ ys)) = minusS xs ys := Asc.unique (putL_asc _ List.Pairwise.nil) (minusS_asc xs ys) fun x => by simp [putL_mem, minusS_mem]

theorem unionS_len (xs ys : List Int) : (unionS xs ys).length ≤ xs.length + ys.length := by
  have := setL_len (xs ++ ys)
  simpa [unionS] using this
theorem interS_len (xs ys : List Int) : (interS xs ys).length ≤ xs.length := Nat.le_trans (List.length_filter_le _ _) (setL_len xs)
theorem minusS_len (xs ys : List Int) : (minusS xs ys).length ≤ xs.length := Nat.le_trans (List.length_filter_le _ _) (setL_len xs)

/-- what a call leaves that returns a list -/
def PostS (w : World) (xs : List Int) (e : Ending) (w' : World) : Prop := ∃ v, e = .returned v ∧ SlI w' v xs ∧ Below w.heap.size w w'
theorem RetRc.post {w w' : World} {xs : List Int} {e : Ending} (h : RetRc 1 Mp.encI w xs e w') : PostS w xs e w' := by
  obtain ⟨A, c, rfl, hc, hR, hb⟩ := h
  exact ⟨_, rfl, ⟨A, c, rfl, hc, hR⟩, hb⟩
section
variable {w : World} {u v : Value} {xs ys : List Int}
theorem k_normal (h : SlI w v xs) (h1 : xs.length ≤ 1000000) : Calls Try.prog 15 #[v] w (PostS w (setL xs)) := by
  obtain ⟨A, c, rfl, hc, hR⟩ := h
  exact (idset_normal_c A c xs w (by omega) hR).mono fun e w' => RetRc.post
theorem k_rnormal (h : SlI w v xs) (h1 : xs.length ≤ 1000000) : Calls Try.prog 17 #[v] w (PostS w (setL xs)) := by
  obtain ⟨A, c, rfl, hc, hR⟩ := h
  rw [← put_normal]
  exact (ref_normal A c xs w (by omega) hR).mono fun e w' => RetRc.post
theorem k_union (h : SlI w u xs) (g : SlI w v ys) (h1 : xs.length ≤ 1000000) (h2 : ys.length ≤ 1000000) : Calls Try.prog 18 #[u, v] w (PostS w (unionS xs ys)) := by
  obtain ⟨A, c, rfl, hc, hR⟩ := h
  obtain ⟨B, d, rfl, hd, hS⟩ := g
  exact (idset_union_c A B c d xs ys w (by omega) hR hS).mono fun e w' => RetRc.post
theorem k_runion (h : SlI w u xs) (g : SlI w v ys) (h1 : xs.length ≤ 1000000) (h2 : ys.length ≤ 1000000) : Calls Try.prog 19 #[u, v] w (PostS w (unionS xs ys)) := by
  obtain ⟨A, c, rfl, hc, hR⟩ := h
  obtain ⟨B, d, rfl, hd, hS⟩ := g
  rw [← put_union]
  exact (ref_union A B c d xs ys w (by omega) (by omega) hR hS).mono fun e w' => RetRc.post
theorem k_rinter (h : SlI w u xs) (g : SlI w v ys) (h1 : xs.length ≤ 1000000) (h2 : ys.length ≤ 1000000) : Calls Try.prog 21 #[u, v] w (PostS w (interS xs ys)) := by
  obtain ⟨A, c, rfl, hc, hR⟩ := h
  obtain ⟨B, d, rfl, hd, hS⟩ := g
  rw [← put_inter]
  exact (ref_inter A B c d xs ys w (by omega) (by omega) hR hS).mono fun e w' => RetRc.post
theorem k_rminus (h : SlI w u xs) (g : SlI w v ys) (h1 : xs.length ≤ 1000000) (h2 : ys.length ≤ 1000000) : Calls Try.prog 23 #[u, v] w (PostS w (minusS xs ys)) := by
  obtain ⟨A, c, rfl, hc, hR⟩ := h
  obtain ⟨B, d, rfl, hd, hS⟩ := g
  rw [← put_minus]
  exact (ref_minus A B c d xs ys w (by omega) (by omega) hR hS).mono fun e w' => RetRc.post
theorem k_inter (h : SlI w u xs) (g : SlI w v ys) (h1 : xs.length ≤ 1000000) (h2 : ys.length ≤ 1000000) : Calls Try.prog 20 #[u, v] w (PostS w (interS xs ys)) := by
  obtain ⟨A, c, rfl, hc, hR⟩ := h
  obtain ⟨B, d, rfl, hd, hS⟩ := g
  exact (idset_inter_c A B c d xs ys w (by omega) (by omega) hR hS).mono fun e w' => RetRc.post
theorem k_minus (h : SlI w u xs) (g : SlI w v ys) (h1 : xs.length ≤ 1000000) (h2 : ys.length ≤ 1000000) : Calls Try.prog 22 #[u, v] w (PostS w (minusS xs ys)) := by
  obtain ⟨A, c, rfl, hc, hR⟩ := h
  obtain ⟨B, d, rfl, hd, hS⟩ := g
  exact (idset_minus_c A B c d xs ys w (by omega) (by omega) hR hS).mono fun e w' => RetRc.post
theorem k_same {b : Bool} (h : SlI w u xs) (g : SlI w v ys) (h1 : xs.length ≤ 1000000) (h2 : ys.length ≤ 1000000) (hb : decide (xs = ys) = b) : Calls Try.prog 16 #[u, v] w (RetV w (.bool b)) := by
  subst hb
  obtain ⟨A, c, rfl, hc, hR⟩ := h
  obtain ⟨B, d, rfl, hd, hS⟩ := g
  exact ref_same A B c d xs ys w (by omega) (by omega) hR hS
theorem k_valid {b : Bool} (h : SlI w v xs) (h1 : xs.length ≤ 1000000) (hb : ascB xs = b) : Calls Try.prog 11 #[v] w (RetV w (.bool b)) := by
  subst hb
  obtain ⟨A, c, rfl, hc, hR⟩ := h
  exact idset_valid A c xs w (by omega) hR
theorem k_rvalid {b : Bool} (h : SlI w v xs) (h1 : xs.length ≤ 1000000) (hb : ascB xs = b) : Calls Try.prog 12 #[v] w (RetV w (.bool b)) := by
  subst hb
  obtain ⟨A, c, rfl, hc, hR⟩ := h
  exact ref_valid A c xs w (by omega) hR
theorem k_has {b : Bool} {x : Int} (h : SlI w v xs) (h1 : xs.length ≤ 1000000) (hb : decide (x ∈ xs) = b) : Calls Try.prog 13 #[v, .int .i64 x] w (RetV w (.bool b)) := by
  subst hb
  obtain ⟨A, c, rfl, hc, hR⟩ := h
  exact idset_has A c x xs w (by omega) hR
theorem k_rhas {b : Bool} {x : Int} (h : SlI w v xs) (h1 : xs.length ≤ 1000000) (hb : decide (x ∈ xs) = b) : Calls Try.prog 14 #[v, .int .i64 x] w (RetV w (.bool b)) := by
  subst hb
  obtain ⟨A, c, rfl, hc, hR⟩ := h
  exact ref_has A c x xs w (by omega) hR
end
theorem SlI.lit (w : World) (cs : Array Value) (xs : List Int) (n : Nat) (hn : n = xs.length) (h : cs = (xs.flatMap Mp.encI).toArray) : SlI (w.alloc (.cells cs 3)) (.slice (some ⟨w.heap.size, 0, none⟩) n n) xs := by
  subst hn
  exact ⟨_, _, rfl, Nat.le_refl _, rd_lit Mp.encI_len w cs 3 xs h⟩
theorem SlI.alloc {w : World} {v : Value} {xs : List Int} (h : SlI w v xs) (o : Obj) : SlI (w.alloc o) v xs := h.below ((Below.refl _ _).alloc (Nat.le_refl _) o)
theorem setL_lit (l r : List Int) (hr : Asc r) (h : ∀ x, x ∈ l ↔ x ∈ r) : setL l = r := Asc.unique (setL_asc l) hr fun x => by rw [setL_mem, h]
end Go.Proofs
