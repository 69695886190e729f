/- row: what it computes, and the two rows that it fills. -/
import Derived.Test.YtafaojmkbbhjmaaM1
import Derived.Test.YtafaojmkbbhjmaaO1
import Derived.Test.YtafaojmkbbhjmaaS12
import Derived.Test.YtafaojmkbbhjmaaSort
set_option linter.unusedVariables false
set_option linter.unusedSimpArgs false
namespace Go.Proofs
open Go.RowKit Go.Proofs.Mp

def wayI (y : Int) (a b : Pt) : Int := (b.1 - a.1) * (y - a.2)
def upI (y : Int) (a b : Pt) : Int := cei (wayI y a b) (b.2 - a.2)
def crossB (y : Int) (a b : Pt) : Bool := !(decide (y < a.2) == decide (y < b.2))
/-- what an edge gives to the ends, and to the boundary -/
def eE (y : Int) (a b : Pt) : List Int := if crossB y a b = true then [a.1 + upI y a b] else []
def eR1 (y : Int) (a b : Pt) : List (Int × Int) := if a.2 = y then [(a.1, a.1 + 1)] else []
def eR2 (y : Int) (a b : Pt) : List (Int × Int) := if a.2 = y ∧ b.2 = y then [(min a.1 b.1, max a.1 b.1 + 1)] else []
def eR3 (y : Int) (a b : Pt) : List (Int × Int) := if crossB y a b = true ∧ upI y a b * (b.2 - a.2) = wayI y a b then [(a.1 + upI y a b, a.1 + upI y a b + 1)] else []
def eR (y : Int) (a b : Pt) : List (Int × Int) := eR1 y a b ++ eR2 y a b ++ eR3 y a b
def endsTo (l : List Pt) (y : Int) : Nat → List Int
  | 0 => []
  | k + 1 => endsTo l y k ++ eE y l[k]! (edE l k)
def edgesTo (l : List Pt) (y : Int) : Nat → List (Int × Int)
  | 0 => []
  | k + 1 => edgesTo l y k ++ eR y l[k]! (edE l k)
def insI (x : Int) : List Int → List Int
  | [] => [x]
  | y :: ys => if x ≤ y then x :: y :: ys else y :: insI x ys
def srtI (xs : List Int) : List Int := xs.foldr insI []
theorem insI_perm (x : Int) : ∀ ys : List Int, (insI x ys).Perm (x :: ys)
  | [] => List.Perm.refl _
  | y :: ys => by
    unfold insI
    split
    · exact List.Perm.refl _
    · exact ((insI_perm x ys).cons y).trans (List.Perm.swap x y ys)
theorem srtI_perm : ∀ xs : List Int, (srtI xs).Perm xs
  | [] => List.Perm.refl _
  | x :: xs => (insI_perm x (srtI xs)).trans ((srtI_perm xs).cons x)
theorem insI_sorted (x : Int) : ∀ ys : List Int, ys.Pairwise (· ≤ ·) → (insI x ys).Pairwise (· ≤ ·)
  | [], _ => by simp [insI]
  | y :: ys, h => by
    rw [List.pairwise_cons] at h
    unfold insI
    split
    · rename_i hxy
      rw [List.pairwise_cons, List.pairwise_cons]
      refine ⟨fun z hz => ?_, h⟩
      rcases List.mem_cons.1 hz with rfl | hz
      · exact hxy
      · exact Int.le_trans hxy (h.1 z hz)
    · rename_i hxy
      rw [List.pairwise_cons]
      refine ⟨fun z hz => ?_, insI_sorted x ys h.2⟩
      rcases List.mem_cons.1 ((insI_perm x ys).mem_iff.1 hz) with rfl | hz
      · omega
      · exact h.1 z hz
theorem srtI_sorted : ∀ xs : List Int, (srtI xs).Pairwise (· ≤ ·)
  | [] => List.Pairwise.nil
  | x :: xs => insI_sorted x _ (srtI_sorted xs)
theorem sorted_unique : ∀ {a b : List Int}, a.Pairwise (· ≤ ·) → b.Pairwise (· ≤ ·) → a.Perm b → a = b
  | [], b, _, _, h => (List.nil_perm.1 h).symm
  | x :: xs, [], _, _, h => absurd h (by simp)
  | x :: xs, y :: ys, ha, hb, h => by
    rw [List.pairwise_cons] at ha hb
    have e : x = y := by
      have h1 : x ∈ y :: ys := h.mem_iff.1 (List.mem_cons_self ..)
      have h2 : y ∈ x :: xs := h.mem_iff.2 (List.mem_cons_self ..)
      rcases List.mem_cons.1 h1 with h1 | h1
      · exact h1
      · rcases List.mem_cons.1 h2 with h2 | h2
        · exact h2.symm
        · have := ha.1 y h2
          have := hb.1 x h1
          omega
    subst e
    rw [sorted_unique ha.2 hb.2 h.cons_inv]
theorem srtI_len (xs : List Int) : (srtI xs).length = xs.length := (srtI_perm xs).length_eq
theorem srtI_eq (xs : List Int) : (xs.mergeSort fun x y => decide (x ≤ y)) = srtI xs := by
  refine sorted_unique ?_ (srtI_sorted xs) ((List.mergeSort_perm _ _).trans (srtI_perm xs).symm)
  have h := List.pairwise_mergeSort (le := fun x y : Int => decide (x ≤ y)) (fun a b c h1 h2 => by simp at *; omega) (fun a b => by simp; omega) xs
  exact h.imp fun hh => by simpa using hh
def insTo (e : List Int) : Nat → List (Int × Int)
  | 0 => []
  | m + 1 => insTo e m ++ (if e[2 * m]! < e[2 * m + 1]! then [(e[2 * m]!, e[2 * m + 1]!)] else [])
def insL (l : List Pt) (y : Int) : List (Int × Int) := insTo (srtI (endsTo l y l.length)) ((srtI (endsTo l y l.length)).length / 2)
def rowL (l : List Pt) (y : Int) : List (Int × Int) := if (insL l y).length = 0 then [] else minusL (insL l y) (edgesTo l y l.length)
theorem endsTo_len (l : List Pt) (y : Int) : ∀ k, (endsTo l y k).length ≤ k
  | 0 => Nat.le_refl _
  | k + 1 => by
    have := endsTo_len l y k
    unfold endsTo eE
    rw [List.length_append]
    split <;> simp <;> omega
theorem eR_len (y : Int) (a b : Pt) : (eR y a b).length ≤ 3 := by
  unfold eR eR1 eR2 eR3
  simp only [List.length_append]
  split <;> split <;> split <;> simp
theorem edgesTo_len (l : List Pt) (y : Int) : ∀ k, (edgesTo l y k).length ≤ 3 * k
  | 0 => Nat.le_refl _
  | k + 1 => by
    have := edgesTo_len l y k
    have := eR_len y l[k]! (edE l k)
    unfold edgesTo
    rw [List.length_append]
    omega
theorem insTo_len (e : List Int) : ∀ m, (insTo e m).length ≤ m
  | 0 => Nat.le_refl _
  | m + 1 => by
    have := insTo_len e m
    unfold insTo
    rw [List.length_append]
    split <;> simp <;> omega

/-- the state of the first loop: the two rows are the call's own, and are two -/
def Duo (w W : World) (vE vR : Value) (es : List Int) (rs : List (Int × Int)) : Prop :=
  OwnI 3 W w.heap.size vE es ∧ OwnR 52 W w.heap.size vR rs ∧ (∀ j, vE.ownBlock = some j → vR.ownBlock ≠ some j) ∧ Below w.heap.size w W
/-- .. and two variables besides -/
def Quad (w W : World) (n : Nat) (vE vR : Value) (es : List Int) (rs : List (Int × Int)) (a b : Pt) : Prop :=
  Duo w W vE vR es rs ∧ BoxP W n a ∧ BoxP W (n + 1) b ∧ (∀ j, vE.ownBlock = some j → j ≠ n ∧ j ≠ n + 1) ∧ ∀ j, vR.ownBlock = some j → j ≠ n ∧ j ≠ n + 1
theorem Duo.below {w W W' : World} {vE vR : Value} {es : List Int} {rs : List (Int × Int)} (h : Duo w W vE vR es rs) (hb : Below W.heap.size W W') : Duo w W' vE vR es rs :=
  ⟨Own.below h.1 hb, Own.below h.2.1 hb, h.2.2.1, h.2.2.2.trans (hb.mono h.2.2.2.size)⟩
theorem Quad.below {w W W' : World} {n : Nat} {vE vR : Value} {es : List Int} {rs : List (Int × Int)} {a b : Pt} (h : Quad w W n vE vR es rs a b) (hb : Below W.heap.size W W') : Quad w W' n vE vR es rs a b :=
  ⟨h.1.below hb, h.2.1.below hb, h.2.2.1.below hb, h.2.2.2⟩
theorem Quad.begin {w W : World} {vE vR : Value} {es : List Int} {rs : List (Int × Int)} (h : Duo w W vE vR es rs) (a b : Pt) :
    Quad w ((W.alloc (.cells #[.int .i64 a.1, .int .i64 a.2] 32)).alloc (.cells #[.int .i64 b.1, .int .i64 b.2] 32)) W.heap.size vE vR es rs a b := by
  have hb : Below W.heap.size W ((W.alloc (.cells #[.int .i64 a.1, .int .i64 a.2] 32)).alloc (.cells #[.int .i64 b.1, .int .i64 b.2] 32)) := (bw1 _ _).trans ((bw1 _ _).mono (bw1 _ _).size)
  refine ⟨h.below hb, (BoxP.new W a).alloc _, ?_, fun j hj => ?_, fun j hj => ?_⟩
  · have := BoxP.new (W.alloc (.cells #[.int .i64 a.1, .int .i64 a.2] 32)) b
    rwa [show (W.alloc (.cells #[.int .i64 a.1, .int .i64 a.2] 32)).heap.size = W.heap.size + 1 by simp] at this
  · have := (World.ownsRow.lt h.1 j hj).2; omega
  · have := (World.ownsRow.lt h.2.1 j hj).2; omega
theorem BoxP.grown {W W' : World} {n : Nat} {p : Pt} {r : Option Nat} (h : BoxP W n p) (hg : W.grownBy W' r) (hne : r ≠ some n) : BoxP W' n p := (hg.block n h.lt (fun e => hne e.symm)).trans h

theorem Quad.appR {w W : World} {n : Nat} {vE vR : Value} {es : List Int} {rs : List (Int × Int)} {a b : Pt} (h : Quad w W n vE vR es rs a b) (x y : Int)
    {ops : Array Oper} {rest : List Oper} {o : Oper} {ac : Act} {Q : Exit → Act → World → Prop} (hgd : o.guard = none) (s t : Operand)
    (ho : o.op = .call { callee := .builtin .append, args := #[s, t], argTypes := #[55, 55] }) (hs : ac.eval s = vR) (hx : ac.eval t = .slice (some ⟨W.heap.size, 0, none⟩) 1 1)
    (hN : rs.length ≤ 100000)
    (hK : ∀ v' w', Quad w w' n vE v' es (rs ++ [(x, y)]) a b → wpList Try.prog ops Q rest (ac.put o.dst v') w') :
    wpList Try.prog ops Q (o :: rest) ac (W.alloc (.cells #[.int .i64 x, .int .i64 y] 52)) := by
  obtain ⟨⟨h1, h2, h3, h4⟩, h5, h6, h7, h8⟩ := h
  obtain ⟨i0, hi0, hz0, hz1, hz2⟩ := info_parts Try.infoR
  have hav : ∀ j, (vE.ownBlock = some j ∨ j = n ∨ j = n + 1) → j < W.heap.size := by
    intro j hj
    rcases hj with hj | rfl | rfl
    · exact (World.ownsRow.lt h1 j hj).2
    · exact h5.lt
    · exact h6.lt
  have hA : OwnA 52 2 encR W w.heap.size (fun j => vE.ownBlock = some j ∨ j = n ∨ j = n + 1) vR rs := ⟨h2, fun j hj hj' => by
    rcases hj' with hj' | rfl | rfl
    · exact h3 j hj' hj
    · exact (h8 _ hj).1 rfl
    · exact (h8 _ hj).2 rfl⟩
  refine OwnA.append1 55 i0 (.agg #[.int .i64 0, .int .i64 0]) 16 Try.underlying55 hi0 hz0 hz1 hz2 rfl (by decide) (by decide) encR_len (x, y) (encR_one _) hgd s t ho hA hav hs hx (by omega) h4.size ?_
  intro v' w' hA' hg hloc
  refine hK v' w' ⟨⟨World.ownsRow.kept h1 hg ?_, hA'.1, fun j hj hj' => hA'.2 j hj' (.inl hj), ?_⟩, h5.grown hg ?_, h6.grown hg ?_, h7, fun j hj => ⟨fun e => hA'.2 j hj (.inr (.inl e)), fun e => hA'.2 j hj (.inr (.inr e))⟩⟩
  · rcases hb : vE.ownBlock with _ | j
    · exact .inl rfl
    · exact .inr fun e => h3 j hb e.symm
  · exact h4.grown hg h4.size (fun k hk => (World.ownsRow.lt h2 k hk).1)
  · intro e; exact (h8 _ e).1 rfl
  · intro e; exact (h8 _ e).2 rfl

theorem Quad.appE {w W : World} {n : Nat} {vE vR : Value} {es : List Int} {rs : List (Int × Int)} {a b : Pt} (h : Quad w W n vE vR es rs a b) (x : Int)
    {ops : Array Oper} {rest : List Oper} {o : Oper} {ac : Act} {Q : Exit → Act → World → Prop} (hgd : o.guard = none) (s t : Operand)
    (ho : o.op = .call { callee := .builtin .append, args := #[s, t], argTypes := #[65, 65] }) (hs : ac.eval s = vE) (hx : ac.eval t = .slice (some ⟨W.heap.size, 0, none⟩) 1 1)
    (hN : es.length ≤ 100000)
    (hK : ∀ v' w', Quad w w' n v' vR (es ++ [x]) rs a b → wpList Try.prog ops Q rest (ac.put o.dst v') w') :
    wpList Try.prog ops Q (o :: rest) ac (W.alloc (.cells #[.int .i64 x] 3)) := by
  obtain ⟨⟨h1, h2, h3, h4⟩, h5, h6, h7, h8⟩ := h
  obtain ⟨i0, hi0, hz0, hz1, hz2⟩ := info_parts Try.infoI
  have hav : ∀ j, (vR.ownBlock = some j ∨ j = n ∨ j = n + 1) → j < W.heap.size := by
    intro j hj
    rcases hj with hj | rfl | rfl
    · exact (World.ownsRow.lt h2 j hj).2
    · exact h5.lt
    · exact h6.lt
  have hA : OwnA 3 1 Mp.encI W w.heap.size (fun j => vR.ownBlock = some j ∨ j = n ∨ j = n + 1) vE es := ⟨h1, fun j hj hj' => by
    rcases hj' with hj' | rfl | rfl
    · exact h3 j hj hj'
    · exact (h7 _ hj).1 rfl
    · exact (h7 _ hj).2 rfl⟩
  refine OwnA.append1 65 i0 (.int .i64 0) 8 Try.underlying65 hi0 hz0 hz1 hz2 rfl (by decide) (by decide) Mp.encI_len x (Mp.encI_one _) hgd s t ho hA hav hs hx (by omega) h4.size ?_
  intro v' w' hA' hg hloc
  refine hK v' w' ⟨⟨hA'.1, World.ownsRow.kept h2 hg ?_, fun j hj hj' => hA'.2 j hj (.inl hj'), ?_⟩, h5.grown hg ?_, h6.grown hg ?_, fun j hj => ⟨fun e => hA'.2 j hj (.inr (.inl e)), fun e => hA'.2 j hj (.inr (.inr e))⟩, h8⟩
  · rcases hb : vR.ownBlock with _ | j
    · exact .inl rfl
    · exact .inr fun e => h3 j e.symm hb
  · exact h4.grown hg h4.size (fun k hk => (World.ownsRow.lt h1 k hk).1)
  · intro e; exact (h7 _ e).1 rfl
  · intro e; exact (h7 _ e).2 rfl

/-- the sort: what it leaves alone -/
theorem sort_held2 {w : World} {base : Nat} {v : Value} {xs : List Int} (h : HeldI w base v xs) (hs : xs.length ≤ 1000000000000) :
    Calls Try.prog 50 #[v] w fun e w' => e = .returned (.tuple #[]) ∧ HeldI w' base v (srtI xs) ∧ w.grownBy w' v.ownBlock := by
  rcases h with ⟨A, c, rfl, rfl⟩ | ⟨g, c, rfl, hb, hg, hc, hH⟩
  · exact (Try.slices_Sort_int_none A c w).mono fun e w' ⟨he, hw⟩ => by
      subst hw
      exact ⟨he, .inl ⟨A, c, rfl, rfl⟩, World.grownBy.refl _ _⟩
  · refine (Try.slices_Sort_int g 0 c xs w hH hg (by omega)).mono fun e w' ⟨he, n, os, hw⟩ => ?_
    rw [srtI_eq] at hw
    subst hw
    have hp : (Go.Sort.putRow (Value.int .i64) (Go.Sort.ahead w n) g 0 (srtI xs).toArray).heap.size = w.heap.size := putRow_size
    have hP := Go.Sort.holds_putRow (Value.int .i64) (Go.Sort.ahead w n) g 0 xs.toArray (srtI xs).toArray (Go.Sort.holds_ahead _ _ _ _ _ _ hH) (by simp [srtI_len])
    have hl : (srtI xs).length = xs.length := srtI_len xs
    show _ ∧ HeldI (Go.Sort.grow (Go.Sort.putRow (Value.int .i64) (Go.Sort.ahead w n) g 0 (srtI xs).toArray) os) base _ (srtI xs) ∧ w.grownBy (Go.Sort.grow (Go.Sort.putRow (Value.int .i64) (Go.Sort.ahead w n) g 0 (srtI xs).toArray) os) _
    refine ⟨he, .inr ⟨g, c, by rw [hl], hb, ?_, by omega, Go.Sort.holds_grow _ _ _ _ _ _ (by rw [hp]; exact hg) hP⟩, ?_⟩
    · show g < (_ ++ _ : Array Obj).size
      rw [Array.size_append]
      have : g < (Go.Sort.putRow (Value.int .i64) (Go.Sort.ahead w n) g 0 (srtI xs).toArray).heap.size := by rw [hp]; exact hg
      exact Nat.lt_of_lt_of_le this (Nat.le_add_right _ _)
    · refine ⟨rfl, rfl, rfl, ?_, fun k hk hne => ?_⟩
      · show _ ≤ (_ ++ _ : Array Obj).size
        rw [Array.size_append]
        exact Nat.le_trans (Nat.le_of_eq hp.symm) (Nat.le_add_right _ _)
      · have hkg : k ≠ g := fun e => hne (by rw [e]; rfl)
        rw [Go.Sort.heap_grow_old _ _ (by rw [hp]; exact hk)]
        simp only [Go.Sort.putRow, Go.Sort.mapBlock, Array.getElem?_modify]
        rw [if_neg (fun e => hkg e.symm)]
        rfl
end Go.Proofs
