/- Words for memory that the walks share: a slice whose cells read as a list. No program is named here. -/
import Derived.WalkKit
import Derived.WalkSpells
import Derived.WalkLawsBesides
import Derived.Lib.Hide
import Derived.Laws.CopyOwn
import Derived.Test.YtcfhhkdjdpkjpaaProg
import Derived.BigQuiet
import Derived.Deep.QuietTactic
import Derived.Maps.AppendAt
import Derived.Laws.OwnMore
namespace Go.Proofs.Mp
open Go.RowKit

/-- The slice at A holds the elements xs, each of k cells, below the end of the heap. -/
def Rd {α : Type} [Inhabited α] (k : Nat) (enc : α → List Value) (w : World) (A : Option Addr) (xs : List α) : Prop :=
  xs = [] ∨ ∃ b off, A = some ⟨b, off, none⟩ ∧ b < w.heap.size ∧ ∀ j, j < xs.length → ∀ i u, (enc xs[j]!)[i]? = some u → w.cell? ⟨b, off + j * k + i, none⟩ = some u

section
variable {α : Type} [Inhabited α] {k : Nat} {enc : α → List Value} {w w' : World} {A : Option Addr} {xs : List α}

theorem Rd.nil (A : Option Addr) : Rd k enc w A ([] : List α) := .inl rfl

theorem Rd.at_ (h : Rd k enc w A xs) {j : Nat} (hj : j < xs.length) :
    ∃ b off, A = some ⟨b, off, none⟩ ∧ b < w.heap.size ∧ ∀ j, j < xs.length → ∀ i u, (enc xs[j]!)[i]? = some u → w.cell? ⟨b, off + j * k + i, none⟩ = some u := by
  rcases h with rfl | h
  · simp at hj
  · exact h

theorem Rd.keep (h : Rd k enc w A xs) (hs : w.heap.size ≤ w'.heap.size) (hk : ∀ p : Addr, p.block < w.heap.size → w'.cell? p = w.cell? p) : Rd k enc w' A xs := by
  rcases h with rfl | ⟨b, off, rfl, hb, hc⟩
  · exact .inl rfl
  · exact .inr ⟨b, off, rfl, by omega, fun j hj i u hu => (hk _ hb).trans (hc j hj i u hu)⟩

theorem Rd.below (h : Rd k enc w A xs) (hb : Below w.heap.size w w') : Rd k enc w' A xs := h.keep hb.size fun _ hp => hb.cell hp

theorem Rd.alloc (h : Rd k enc w A xs) (o : Obj) : Rd k enc (w.alloc o) A xs := h.below ((Below.refl _ _).alloc (Nat.le_refl _) o)

theorem Rd.drop {a : Addr} (h : Rd k enc w (some a) xs) (hn : xs ≠ []) (n : Nat) : Rd k enc w (some (a.add (n * k))) (xs.drop n) := by
  rcases h with rfl | ⟨b, off, he, hb, hc⟩
  · exact absurd rfl hn
  · injection he with he
    subst he
    refine .inr ⟨b, off + n * k, ?_, hb, fun j hj i u hu => ?_⟩
    · unfold Addr.add
      split
      · rename_i h0; simp [h0]
      · rfl
    · simp only [List.length_drop] at hj
      have e : (xs.drop n)[j]! = xs[n + j]! := by simp [getElem!_def, List.getElem?_drop]
      rw [e] at hu
      have := hc (n + j) (by omega) i u hu
      rw [← this, Nat.add_mul]
      congr 2
      omega
end

theorem Rd.get {α : Type} [Inhabited α] {k : Nat} {enc : α → List Value} {w wr : World} {A : Option Addr} {xs : List α} (h : Rd k enc w A xs) (hb : Below w.heap.size w wr) {j : Nat} (hj : j < xs.length) :
    ∃ b off, A = some ⟨b, off, none⟩ ∧ b < w.heap.size ∧ ∀ j, j < xs.length → ∀ i u, (enc xs[j]!)[i]? = some u → wr.cell? ⟨b, off + j * k + i, none⟩ = some u := by
  obtain ⟨b, off, rfl, hlt, hc⟩ := h.at_ hj
  exact ⟨b, off, rfl, hlt, fun j hj i u hu => (hb.cell (p := ⟨b, off + j * k + i, none⟩) hlt).trans (hc j hj i u hu)⟩

/-- A range's two cells. -/
def encR (r : Int × Int) : List Value := [.int .i64 r.1, .int .i64 r.2]
/-- An integer's cell. -/
def encI (n : Int) : List Value := [.int .i64 n]

abbrev RdR (w : World) (A : Option Addr) (xs : List (Int × Int)) : Prop := Rd 2 encR w A xs
abbrev RdI (w : World) (A : Option Addr) (xs : List Int) : Prop := Rd 1 encI w A xs

theorem RdR.get {w wr : World} {A : Option Addr} {xs : List (Int × Int)} (h : Rd 2 encR w A xs) (hb : Below w.heap.size w wr) {j : Nat} (hj : j < xs.length) :
    ∃ b off, A = some ⟨b, off, none⟩ ∧ b < w.heap.size ∧ wr.cell? ⟨b, off + j * 2, none⟩ = some (.int .i64 xs[j]!.1) ∧ wr.cell? ⟨b, off + j * 2 + 1, none⟩ = some (.int .i64 xs[j]!.2) := by
  obtain ⟨b, off, rfl, hlt, hc⟩ := h.get hb hj
  exact ⟨b, off, rfl, hlt, hc j hj 0 _ rfl, hc j hj 1 _ rfl⟩

theorem RdI.get {w wr : World} {A : Option Addr} {xs : List Int} (h : Rd 1 encI w A xs) (hb : Below w.heap.size w wr) {j : Nat} (hj : j < xs.length) :
    ∃ b off, A = some ⟨b, off, none⟩ ∧ b < w.heap.size ∧ wr.cell? ⟨b, off + j, none⟩ = some (.int .i64 xs[j]!) := by
  obtain ⟨b, off, rfl, hlt, hc⟩ := h.get hb hj
  exact ⟨b, off, rfl, hlt, by simpa using hc j hj 0 _ rfl⟩

theorem RdR.getAll {w wr : World} {A : Option Addr} {xs : List (Int × Int)} (h : Rd 2 encR w A xs) (hb : Below w.heap.size w wr) {j : Nat} (hj : j < xs.length) :
    ∃ b off, A = some ⟨b, off, none⟩ ∧ b < w.heap.size ∧ ∀ j, j < xs.length → wr.cell? ⟨b, off + j * 2, none⟩ = some (.int .i64 xs[j]!.1) ∧ wr.cell? ⟨b, off + j * 2 + 1, none⟩ = some (.int .i64 xs[j]!.2) := by
  obtain ⟨b, off, rfl, hlt, hc⟩ := h.get hb hj
  exact ⟨b, off, rfl, hlt, fun j hj => ⟨hc j hj 0 _ rfl, hc j hj 1 _ rfl⟩⟩
theorem RdI.getAll {w wr : World} {A : Option Addr} {xs : List Int} (h : Rd 1 encI w A xs) (hb : Below w.heap.size w wr) {j : Nat} (hj : j < xs.length) :
    ∃ b off, A = some ⟨b, off, none⟩ ∧ b < w.heap.size ∧ ∀ j, j < xs.length → wr.cell? ⟨b, off + j, none⟩ = some (.int .i64 xs[j]!) := by
  obtain ⟨b, off, rfl, hlt, hc⟩ := h.get hb hj
  exact ⟨b, off, rfl, hlt, fun j hj => by simpa using hc j hj 0 _ rfl⟩

section
variable {P : Program} {w : World}

/-- One element of 'size' cells, just laid in a block of its own, is appended to a row of the call's own. -/
theorem wpList_append1 {ops : Array Oper} {rest : List Oper} {o : Oper} {a : Act} {Q : Exit → Act → World → Prop} (hgd : o.guard = none) (s x : Operand) (t : TypeId)
    (ho : o.op = .call { callee := .builtin .append, args := #[s, x], argTypes := #[t, t] })
    (base : Nat) (e : TypeId) (i : TypeInfo) (z : Value) (size bytes : Nat) (ht : P.underlying t = some (.slice e)) (hi : P.info? e = some i) (hz : i.zero = some z)
    (hsize : i.size = size) (hby : i.bytes = bytes) (hzs : z.cells.size = size) (hsz : 0 < size) (hbpos : 0 < bytes)
    (v : Value) (n : Nat) (xs : List Value) (hs : a.eval s = v) (hown : w.ownsRow base e size v n xs)
    (cs : Array Value) (hx : a.eval x = .slice (some ⟨w.heap.size, 0, none⟩) 1 1) (hl : cs.size = size) (h1 : ∀ u ∈ cs.toList, u.oneCell' = true)
    (hbytes : (n + 1) * bytes ≤ 140737488355328) (hbase : base ≤ w.heap.size)
    (h : ∀ v' w', w'.ownsRow base e size v' (n + 1) (xs ++ cs.toList) → Below base w w' → wpList P ops Q rest (a.put o.dst v') w') : wpList P ops Q (o :: rest) a (w.alloc (.cells cs e)) := by
  have hle : n + 1 ≤ (n + 1) * bytes := Nat.le_mul_of_pos_right _ hbpos
  have hadd : ∀ j, (⟨w.heap.size, 0, none⟩ : Addr).add j = ⟨w.heap.size, j, none⟩ := fun j => by
    unfold Addr.add
    split
    · simp_all
    · simp
  refine wpList_append_own _ hgd s x t ho base e i z size bytes ht hi hz hsize hby hzs hsz v n xs hs (hown.alloc _) ⟨w.heap.size, 0, none⟩ 1 1 cs.toList hx (by simp [hl]) ?_ h1
    (by unfold maxLen; omega) hbytes (by simp; omega) ?_
  · intro j u hu
    rw [hadd, cell_of_row _ w.heap.size j cs e (0, 0) (heap_alloc_new w _)]
    simpa using hu
  · intro v' w' hown' hg _
    refine h v' w' hown' ?_
    have h0 : Below base w (w.alloc (.cells cs e)) := (Below.refl _ _).alloc hbase _
    exact h0.grown hg (by simp; omega) (fun k hk => (hown.lt k hk).1)
end

section
variable {P : Program} {w : World}
theorem wp_append1 {o : Oper} {a : Act} {K : Act → World → Prop} {Q : Exit → Act → World → Prop} (s x : Operand) (t : TypeId)
    (ho : o.op = .call { callee := .builtin .append, args := #[s, x], argTypes := #[t, t] })
    (base : Nat) (e : TypeId) (i : TypeInfo) (z : Value) (size bytes : Nat) (ht : P.underlying t = some (.slice e)) (hi : P.info? e = some i) (hz : i.zero = some z)
    (hsize : i.size = size) (hby : i.bytes = bytes) (hzs : z.cells.size = size) (hsz : 0 < size) (hbpos : 0 < bytes)
    (v : Value) (n : Nat) (xs : List Value) (hs : a.eval s = v) (hown : w.ownsRow base e size v n xs)
    (cs : Array Value) (hx : a.eval x = .slice (some ⟨w.heap.size, 0, none⟩) 1 1) (hl : cs.size = size) (h1 : ∀ u ∈ cs.toList, u.oneCell' = true)
    (hbytes : (n + 1) * bytes ≤ 140737488355328) (hbase : base ≤ w.heap.size)
    (h : ∀ v' w', w'.ownsRow base e size v' (n + 1) (xs ++ cs.toList) → Below base w w' → K (a.put o.dst v') w') : o.wp P a (w.alloc (.cells cs e)) K Q := by
  have hle : n + 1 ≤ (n + 1) * bytes := Nat.le_mul_of_pos_right _ hbpos
  have hadd : ∀ j, (⟨w.heap.size, 0, none⟩ : Addr).add j = ⟨w.heap.size, j, none⟩ := fun j => by
    unfold Addr.add
    split
    · simp_all
    · simp
  refine wp_append_own _ s x t ho base e i z size bytes ht hi hz hsize hby hzs hsz v n xs hs (hown.alloc _) ⟨w.heap.size, 0, none⟩ 1 1 cs.toList hx (by simp [hl]) ?_ h1
    (by unfold maxLen; omega) hbytes (by simp; omega) ?_
  · intro j u hu
    rw [hadd, cell_of_row _ w.heap.size j cs e (0, 0) (heap_alloc_new w _)]
    simpa using hu
  · intro v' w' hown' hg _
    refine h v' w' hown' ?_
    have h0 : Below base w (w.alloc (.cells cs e)) := (Below.refl _ _).alloc hbase _
    exact h0.grown hg (by simp; omega) (fun k hk => (hown.lt k hk).1)
end

/-- A row of the call's own reads as its list. -/
theorem Rd.of_own {α : Type} [Inhabited α] {k : Nat} {enc : α → List Value} (hk : ∀ x, (enc x).length = k) {w : World} {base n : Nat} {e : TypeId} {A : Option Addr} {c : Nat} {xs : List α}
    (h : w.ownsRow base e k (.slice A n c) n (xs.flatMap enc)) (hn : n = xs.length) : Rd k enc w A xs := by
  subst hn
  have key : ∀ (ys : List α) j, j < ys.length → ∀ i u, (enc ys[j]!)[i]? = some u → (ys.flatMap enc)[j * k + i]? = some u := by
    intro ys
    induction ys with
    | nil => intro j hj; simp at hj
    | cons y ys ih =>
      intro j hj i u hu
      rw [List.flatMap_cons]
      rcases j with _ | j
      · simp only [List.getElem!_cons_zero] at hu
        have hi : i < (enc y).length := (List.getElem?_eq_some_iff.1 hu).1
        simp only [Nat.zero_mul, Nat.zero_add]
        rw [List.getElem?_append_left hi]
        exact hu
      · simp only [List.getElem!_cons_succ] at hu
        have e1 : (j + 1) * k + i = (enc y).length + (j * k + i) := by rw [hk, Nat.succ_mul]; omega
        rw [e1, List.getElem?_append_right (by omega)]
        simpa using ih j (by simpa using hj) i u hu
  rcases xs with _ | ⟨x, xs⟩
  · exact .inl rfl
  · obtain ⟨hl, h2⟩ := h
    rcases h2 with ⟨_, h0⟩ | ⟨g, cap, cur, hv, hb, hh, hnc, hm, hcs, htake⟩
    · simp at h0
    · injection hv with hA
      subst hA
      refine .inr ⟨g, 0, rfl, (Array.getElem?_eq_some_iff.1 hh).1, fun j hj i u hu => ?_⟩
      have h3 := key _ j hj i u hu
      have hlt : j * k + i < ((x :: xs).length) * k := by
        have hi : i < k := by have := (List.getElem?_eq_some_iff.1 hu).1; rw [hk] at this; exact this
        have := Nat.mul_le_mul_right k (show j + 1 ≤ (x :: xs).length from hj)
        rw [Nat.succ_mul] at this
        omega
      rw [cell_of_row w g _ cur e (0, 0) hh]
      rw [← htake, List.getElem?_take, if_pos hlt] at h3
      simpa using h3

theorem encR_len (x : Int × Int) : (encR x).length = 2 := rfl
theorem encI_len (x : Int) : (encI x).length = 1 := rfl

/-- The value of a row of the call's own is a slice. -/
theorem own_slice {w : World} {base n : Nat} {e : TypeId} {k : Nat} {v : Value} {xs : List Value} (h : w.ownsRow base e k v n xs) : ∃ A c, v = .slice A n c := by
  rcases h.2 with ⟨rfl, rfl⟩ | ⟨g, cap, cur, rfl, _⟩
  · exact ⟨_, _, rfl⟩
  · exact ⟨_, _, rfl⟩

theorem foldl_take_succ {α β : Type} [Inhabited α] (f : β → α → β) (b : β) (l : List α) (k : Nat) (h : k < l.length) : (l.take (k + 1)).foldl f b = f ((l.take k).foldl f b) l[k]! := by
  rw [List.take_succ_eq_append_getElem h, List.foldl_append]
  simp [h]

/-- The value v is a slice of the call's own (blocks from base on) that holds the elements xs. -/
def Own {α : Type} (e : TypeId) (k : Nat) (enc : α → List Value) (w : World) (base : Nat) (v : Value) (xs : List α) : Prop :=
  w.ownsRow base e k v xs.length (xs.flatMap enc)

section
variable {α : Type} {e : TypeId} {k : Nat} {enc : α → List Value} {w w' : World} {base : Nat} {v : Value} {xs : List α}

theorem Own.nil (w : World) (base : Nat) : Own e k enc w base (.slice none 0 0) [] := World.ownsRow_nil _ _ _ _
theorem Own.drewN (h : Own e k enc w base v xs) (n : Nat) : Own e k enc (w.drewN n) base v xs := h
theorem Own.alloc (h : Own e k enc w base v xs) (o : Obj) : Own e k enc (w.alloc o) base v xs := World.ownsRow.alloc h o
theorem Own.below (h : Own e k enc w base v xs) (hb : Below w.heap.size w w') : Own e k enc w' base v xs := by
  obtain ⟨h1, h2⟩ := h
  refine ⟨h1, ?_⟩
  rcases h2 with h2 | ⟨g, cap, cur, hv, hg, hh, r⟩
  · exact .inl h2
  · exact .inr ⟨g, cap, cur, hv, hg, by rw [hb.block g (Array.getElem?_eq_some_iff.1 hh).1]; exact hh, r⟩
theorem Own.mono (h : Own e k enc w base v xs) {base' : Nat} (hb : base' ≤ base) : Own e k enc w base' v xs := by
  obtain ⟨h1, h2⟩ := h
  refine ⟨h1, ?_⟩
  rcases h2 with h2 | ⟨g, cap, cur, hv, hg, hh, r⟩
  · exact .inl h2
  · exact .inr ⟨g, cap, cur, hv, by omega, hh, r⟩
theorem Own.slice (h : Own e k enc w base v xs) : ∃ A c, v = .slice A xs.length c := own_slice h
theorem Own.rd [Inhabited α] (hk : ∀ x, (enc x).length = k) {A : Option Addr} {n c : Nat} (h : Own e k enc w base (.slice A n c) xs) : Rd k enc w A xs := by
  have hn : n = xs.length := by
    obtain ⟨_, _, he⟩ := Own.slice h
    injection he
  subst hn
  exact Rd.of_own hk h rfl

theorem Own.step1 {P : Program} {ops : Array Oper} {o : Oper} {a : Act} {K : Act → World → Prop} {Q : Exit → Act → World → Prop} {E : Prop} (t : TypeId) (i : TypeInfo) (z : Value) (bytes : Nat)
    (ht : P.underlying t = some (.slice e)) (hi : P.info? e = some i) (hz : i.zero = some z)
    (hsize : i.size = k) (hby : i.bytes = bytes) (hzs : z.cells.size = k) (hsz : 0 < k) (hbpos : 0 < bytes)
    (hk : ∀ x, (enc x).length = k) (h1 : ∀ x, ∀ u ∈ enc x, u.oneCell' = true) (hgd : o.guard = none) (s x : Operand)
    (ho : o.op = .call { callee := .builtin .append, args := #[s, x], argTypes := #[t, t] })
    (hown : Own e k enc w base v xs) (hs : a.eval s = v) (y : α) (hx : a.eval x = .slice (some ⟨w.heap.size, 0, none⟩) 1 1)
    (hbytes : (xs.length + 1) * bytes ≤ 140737488355328) (hbase : base ≤ w.heap.size)
    (h : ∀ v' w', Own e k enc w' base v' (xs ++ [y]) → Below base w w' → K (a.put o.dst v') w') :
    if Region.wanted o (yielded ops a.tmps) = true then Oper.wp P o a (w.alloc (.cells (enc y).toArray e)) K Q else E := by
  have hw : Region.wanted o (yielded ops a.tmps) = true := by simp [Region.wanted, hgd]
  rw [if_pos hw]
  refine wp_append1 s x t ho base e i z k bytes ht hi hz hsize hby hzs hsz hbpos v xs.length (xs.flatMap enc) hs hown (enc y).toArray hx (by simp [hk]) (by simpa using h1 y) hbytes hbase ?_
  intro v' w' ho' hb'
  refine h v' w' ?_ hb'
  unfold Own
  simpa using ho'

/-- append(out, x), one element x whose cells have just been laid in a block of their own. -/
theorem Own.append1 {P : Program} {ops : Array Oper} {rest : List Oper} {o : Oper} {a : Act} {Q : Exit → Act → World → Prop} (t : TypeId) (i : TypeInfo) (z : Value) (bytes : Nat)
    (ht : P.underlying t = some (.slice e)) (hi : P.info? e = some i) (hz : i.zero = some z)
    (hsize : i.size = k) (hby : i.bytes = bytes) (hzs : z.cells.size = k) (hsz : 0 < k) (hbpos : 0 < bytes)
    (hk : ∀ x, (enc x).length = k) (h1 : ∀ x, ∀ u ∈ enc x, u.oneCell' = true) (hgd : o.guard = none) (s x : Operand)
    (ho : o.op = .call { callee := .builtin .append, args := #[s, x], argTypes := #[t, t] })
    (hown : Own e k enc w base v xs) (hs : a.eval s = v) (y : α) (hx : a.eval x = .slice (some ⟨w.heap.size, 0, none⟩) 1 1)
    (hbytes : (xs.length + 1) * bytes ≤ 140737488355328) (hbase : base ≤ w.heap.size)
    (h : ∀ v' w', Own e k enc w' base v' (xs ++ [y]) → Below base w w' → wpList P ops Q rest (a.put o.dst v') w') :
    wpList P ops Q (o :: rest) a (w.alloc (.cells (enc y).toArray e)) := by
  refine wpList_append1 hgd s x t ho base e i z k bytes ht hi hz hsize hby hzs hsz hbpos v xs.length (xs.flatMap enc) hs hown (enc y).toArray hx (by simp [hk]) (by simpa using h1 y) hbytes hbase ?_
  intro v' w' ho' hb'
  refine h v' w' ?_ hb'
  unfold Own
  simpa using ho'
end

/-- The call has returned a slice that reads as xs, and has turned nothing that was there. -/
def RetRd {α : Type} [Inhabited α] (k : Nat) (enc : α → List Value) (w : World) (xs : List α) (e : Ending) (w' : World) : Prop :=
  ∃ A c, e = .returned (.slice A xs.length c) ∧ Rd k enc w' A xs ∧ Below w.heap.size w w'
theorem RetRd.of_own {α : Type} [Inhabited α] {e : TypeId} {k : Nat} {enc : α → List Value} {w w' : World} {base : Nat} {v : Value} {xs : List α} (hk : ∀ x, (enc x).length = k) (h : Own e k enc w' base v xs) (hb : Below w.heap.size w w') :
    RetRd k enc w xs (.returned v) w' := by
  obtain ⟨A, c, rfl⟩ := Own.slice h
  exact ⟨A, c, rfl, Own.rd hk h, hb⟩
/-- .. and its capacity is no less than its length. -/
def RetRc {α : Type} [Inhabited α] (k : Nat) (enc : α → List Value) (w : World) (xs : List α) (e : Ending) (w' : World) : Prop :=
  ∃ A c, e = .returned (.slice A xs.length c) ∧ xs.length ≤ c ∧ Rd k enc w' A xs ∧ Below w.heap.size w w'
theorem RetRc.rd {α : Type} [Inhabited α] {k : Nat} {enc : α → List Value} {w : World} {xs : List α} {e : Ending} {w' : World} (h : RetRc k enc w xs e w') : RetRd k enc w xs e w' := by
  obtain ⟨A, c, h1, _, h2, h3⟩ := h
  exact ⟨A, c, h1, h2, h3⟩
theorem RetRc.of_own {α : Type} [Inhabited α] {e : TypeId} {k : Nat} {enc : α → List Value} {w w' : World} {base : Nat} {v : Value} {xs : List α} (hk : ∀ x, (enc x).length = k) (h : Own e k enc w' base v xs) (hb : Below w.heap.size w w') :
    RetRc k enc w xs (.returned v) w' := by
  have h0 := h
  rcases h.2 with ⟨rfl, hn⟩ | ⟨g, cap, cur, rfl, _, _, hnc, _⟩
  · exact ⟨none, 0, by rw [hn], by omega, Own.rd hk h0, hb⟩
  · exact ⟨_, cap, rfl, hnc, Own.rd hk h0, hb⟩
/-- The call has returned the value v, and has turned nothing that was there. -/
def RetV (w : World) (v : Value) (e : Ending) (w' : World) : Prop := e = .returned v ∧ Below w.heap.size w w'

theorem RetV.bool {w w' : World} {b b' : Bool} (h : b = b') (hb : Below w.heap.size w w') : RetV w (.bool b') (.returned (.bool b)) w' := ⟨by rw [h], hb⟩
theorem RetV.int {w w' : World} {k : IntKind} {b b' : Int} (h : b = b') (hb : Below w.heap.size w w') : RetV w (.int k b') (.returned (.int k b)) w' := ⟨by rw [h], hb⟩
abbrev RetR (w : World) (xs : List (Int × Int)) (e : Ending) (w' : World) : Prop := RetRd 2 encR w xs e w'
abbrev RetI (w : World) (xs : List Int) (e : Ending) (w' : World) : Prop := RetRd 1 encI w xs e w'
abbrev OwnR (e : TypeId) (w : World) (base : Nat) (v : Value) (xs : List (Int × Int)) : Prop := Own e 2 encR w base v xs
abbrev OwnI (e : TypeId) (w : World) (base : Nat) (v : Value) (xs : List Int) : Prop := Own e 1 encI w base v xs
/-- Block g is a row of the call's own: the cells cs. -/
def Row (w : World) (g : Nat) (t : TypeId) (cs : List Value) : Prop := w.heap[g]? = some (.cells cs.toArray t (0, 0))
theorem Row.lt {w : World} {g : Nat} {t : TypeId} {cs : List Value} (h : Row w g t cs) : g < w.heap.size := (Array.getElem?_eq_some_iff.1 h).1
theorem Row.below {w w' : World} {g B : Nat} {t : TypeId} {cs : List Value} (h : Row w g t cs) (hb : Below B w w') (hg : g < B) : Row w' g t cs := (hb.block g hg).trans h
theorem Row.cell {w : World} {g : Nat} {t : TypeId} {cs : List Value} (h : Row w g t cs) (j : Nat) : w.cell? ⟨g, j, none⟩ = cs[j]? := by
  rw [cell_of_row w g j _ t (0, 0) h]; simp
theorem Row.frozen {w : World} {g : Nat} {t : TypeId} {cs : List Value} (h : Row w g t cs) (j : Nat) : w.frozen? ⟨g, j, none⟩ = false := frozen_of_row w g j _ t h

theorem flat_len {α : Type} {k : Nat} {enc : α → List Value} (hk : ∀ x, (enc x).length = k) (ys : List α) : (ys.flatMap enc).length = ys.length * k := by
  induction ys with
  | nil => simp
  | cons y ys ih => simp only [List.flatMap_cons, List.length_append, ih, hk, List.length_cons, Nat.succ_mul]; omega
theorem flat_get {α : Type} [Inhabited α] {k : Nat} {enc : α → List Value} (hk : ∀ x, (enc x).length = k) : ∀ (ys : List α) (j : Nat), j < ys.length → ∀ i u, (enc ys[j]!)[i]? = some u → (ys.flatMap enc)[j * k + i]? = some u := by
  intro ys
  induction ys with
  | nil => intro j hj; simp at hj
  | cons y ys ih =>
    intro j hj i u hu
    rw [List.flatMap_cons]
    rcases j with _ | j
    · simp only [List.getElem!_cons_zero] at hu
      have hi : i < (enc y).length := (List.getElem?_eq_some_iff.1 hu).1
      simp only [Nat.zero_mul, Nat.zero_add]
      rw [List.getElem?_append_left hi]
      exact hu
    · simp only [List.getElem!_cons_succ] at hu
      have e1 : (j + 1) * k + i = (enc y).length + (j * k + i) := by rw [hk, Nat.succ_mul]; omega
      rw [e1, List.getElem?_append_right (by omega)]
      simpa using ih j (by simpa using hj) i u hu
/-- every cell of the flat list is one of an element's -/
theorem flat_inv {α : Type} [Inhabited α] {k : Nat} {enc : α → List Value} (hk : ∀ x, (enc x).length = k) (hpos : 0 < k) (ys : List α) (t : Nat) (u : Value) (h : (ys.flatMap enc)[t]? = some u) :
    t / k < ys.length ∧ (enc ys[t / k]!)[t % k]? = some u := by
  have ht := (List.getElem?_eq_some_iff.1 h).1
  rw [flat_len hk] at ht
  have hj : t / k < ys.length := Nat.div_lt_of_lt_mul (by rwa [Nat.mul_comm] at ht)
  refine ⟨hj, ?_⟩
  have hm : t % k < (enc ys[t / k]!).length := by rw [hk]; exact Nat.mod_lt _ hpos
  have h2 := flat_get hk ys (t / k) hj (t % k) _ (List.getElem?_eq_getElem hm)
  have e : t / k * k + t % k = t := Nat.div_add_mod' t k
  rw [e] at h2
  rw [List.getElem?_eq_getElem hm, ← h2]
  exact h
/-- the slice's cells, one after the other -/
theorem Rd.flat {α : Type} [Inhabited α] {k : Nat} {enc : α → List Value} (hk : ∀ x, (enc x).length = k) (hpos : 0 < k) {w : World} {A : Option Addr} {xs : List α} (h : Rd k enc w A xs) (hn : xs ≠ []) :
    ∃ ad, A = some ad ∧ ∀ j v, (xs.flatMap enc)[j]? = some v → w.cell? (ad.add j) = some v := by
  rcases h with rfl | ⟨b, off, rfl, hb, hc⟩
  · exact absurd rfl hn
  · refine ⟨_, rfl, fun j v hv => ?_⟩
    obtain ⟨h1, h2⟩ := flat_inv hk hpos xs j v hv
    have h3 := hc _ h1 _ _ h2
    have e : off + j / k * k + j % k = off + j := by rw [Nat.add_assoc, Nat.div_add_mod']
    rw [e] at h3
    have ea : (⟨b, off, none⟩ : Addr).add j = ⟨b, off + j, none⟩ := by
      unfold Addr.add
      split
      · simp_all
      · rfl
    rw [ea]; exact h3
theorem Row.rd {α : Type} [Inhabited α] {k : Nat} {enc : α → List Value} (hk : ∀ x, (enc x).length = k) {w : World} {g : Nat} {t : TypeId} {xs : List α} (h : Row w g t (xs.flatMap enc)) : Rd k enc w (some ⟨g, 0, none⟩) xs := by
  rcases xs with _ | ⟨x, xs⟩
  · exact .inl rfl
  · refine .inr ⟨g, 0, rfl, h.lt, fun j hj i u hu => ?_⟩
    have h3 := flat_get hk _ j hj i u hu
    rw [h.cell]
    simpa using h3

section
variable {P : Program} {w : World}
/-- make([]T, n): a row of n zero values. -/
theorem wpList_makeRow {ops : Array Oper} {rest : List Oper} {o : Oper} {a : Act} {Q : Exit → Act → World → Prop}
    (hg : o.guard = none) (l c : Operand) (t : TypeId) (hop : o.op = Op.makeSlice t l c) (e : TypeId) (i : TypeInfo) (z : Value) (size : Nat) (h1 : P.underlying t = some (.slice e)) (h2 : P.info? e = some i) (h3 : i.zero = some z) (h4 : i.size = size)
    (kl kc : IntKind) (L C : Int) (n : Nat) (hl : a.eval l = .int kl L) (hc : a.eval c = .int kc C) (hL : L = (n : Int)) (hC : C = (n : Int)) (b2 : i.bytes * n ≤ 281474976710656) (b3 : n ≤ 9223372036854775807)
    (hK : ∀ w', Row w' w.heap.size e (madeCells z.cells (n * size)).toList → Below w.heap.size w w' → wpList P ops Q rest (a.put o.dst (.slice (some ⟨w.heap.size, 0, none⟩) n n)) w') :
    wpList P ops Q (o :: rest) a w := by
  refine wpList_make_full w hg l c t hop w.heap.size e i z size h1 h2 h3 h4 kl kc L C n hl hc hL hC b2 b3 (Nat.le_refl _) ?_
  intro w' ho hgr
  refine hK w' ?_ ((Below.refl _ _).grown hgr (Nat.le_refl _) (fun k hk => by cases hk))
  rcases ho.2 with ⟨h, _⟩ | ⟨g, cap, cur, hv, hb, hh, hnc, hm, hcs, htake⟩
  · cases h
  · injection hv with h5 _ h6
    injection h5 with h5
    injection h5 with h5 _ _
    subst h5 h6
    unfold Row
    rw [hh]
    congr 2
    rw [← htake, List.take_of_length_le (by rw [Array.length_toList, hcs]; exact Nat.le_refl _)]

/-- copy(dst, src) into a row that is known whole; elements of k cells. -/
theorem wpList_copyK {ops : Array Oper} {rest : List Oper} {o : Oper} {a : Act} {Q : Exit → Act → World → Prop} (hgd : o.guard = none) (d s : Operand) (dT sT : TypeId)
    (ho : o.op = .call { callee := .builtin .copy, args := #[d, s], argTypes := #[dT, sT] }) (elem : TypeId) (k : Nat) (hu : P.underlying dT = some (.slice elem)) (hsz : (P.info? elem).map (·.size) = some k)
    (dp sp : Option Addr) (dLen dCap sLen sCap : Nat) (hd : a.eval d = .slice dp dLen dCap) (hs : a.eval s = .slice sp sLen sCap)
    (g off : Nat) (cur : List Value) (t : TypeId) (hg : Row w g t cur) (cs : List Value) (m : Nat) (hm : m = Nat.min sLen dLen) (hn : cs.length = m * k)
    (hpos : 0 < m → dp = some ⟨g, off, none⟩ ∧ ∃ ad, sp = some ad ∧ ∀ j v, cs[j]? = some v → w.cell? (ad.add j) = some v)
    (hfit : off + cs.length ≤ cur.length) (h1 : ∀ v ∈ cs, v.oneCell' = true)
    (h : ∀ w', Row w' g t (splice cur off cs) → Below g w w' → wpList P ops Q rest (a.put o.dst (goInt m)) w') :
    wpList P ops Q (o :: rest) a w := by
  refine wpList_plain hgd fun K hK => ?_
  cases hq : P.info? elem with
  | none => simp [hq] at hsz
  | some i =>
    have hi : i.size = k := by simpa [hq] using hsz
    by_cases h0 : m = 0
    · have hcs : cs = [] := List.eq_nil_of_length_eq_zero (by rw [hn, h0]; simp)
      have hrun : (Builtin.copy_ #[dT, sT] o.type #[.slice dp dLen dCap, .slice sp sLen sCap]).run P w = .ok (goInt 0) w := by
        rcases sp with _ | sa <;> rcases dp with _ | da <;> simp [Builtin.copy_, run_underlying hu, Builtin.lenOf, Builtin.firstCells, sizeOf, typeInfo, hq, ← hm, h0, storeCells, loadCells, loadCellsFrom]
      have hnext := h w (by rw [hcs]; simpa [splice] using hg) (Below.refl _ _)
      rw [h0] at hnext
      unfold Oper.wp
      simp [execOp, ho, resolve, invoke, builtin, hd, hs, hrun, Result.andThen]
      exact hK _ _ hnext
    · obtain ⟨rfl, ad, rfl, hsrc⟩ := hpos (by omega)
      have hl := run_firstCells_some (P := P) w k m ad sLen sCap cs hn hsrc
      have hst := run_storeCells_at P g off t cs 0 cur.toArray w hg (by simpa using hfit) h1
      have hrun : (Builtin.copy_ #[dT, sT] o.type #[.slice (some ⟨g, off, none⟩) dLen dCap, .slice (some ad) sLen sCap]).run P w = .ok (goInt m) (w.setRow g (splice cur off cs).toArray) := by
        simp [Builtin.copy_, run_underlying hu, Builtin.lenOf, sizeOf, typeInfo, hq, hi, ← hm, hl, hst, splice]
      have hnext := h (w.setRow g (splice cur off cs).toArray) (setRow_heap w g _ _ t _ hg) (below_setRow (Below.refl _ _) (Nat.le_refl _) _)
      unfold Oper.wp
      simp [execOp, ho, resolve, invoke, builtin, hd, hs, hrun, Result.andThen]
      exact hK _ _ hnext
end

/-- The last range of a row of the call's own. -/
theorem OwnR.last {e : TypeId} {w : World} {base : Nat} {v : Value} {xs : List (Int × Int)} {lo hi : Int} (h : OwnR e w base v (xs ++ [(lo, hi)])) :
    ∃ g cap, v = .slice (some ⟨g, 0, none⟩) (xs.length + 1) cap ∧ base ≤ g ∧ g < w.heap.size ∧ w.cell? ⟨g, xs.length * 2, none⟩ = some (.int .i64 lo) ∧ w.cell? ⟨g, xs.length * 2 + 1, none⟩ = some (.int .i64 hi) ∧
      w.frozen? ⟨g, xs.length * 2 + 1, none⟩ = false ∧ ∀ u : Int, OwnR e (w.setCell ⟨g, xs.length * 2 + 1, none⟩ (.int .i64 u)) base v (xs ++ [(lo, u)]) := by
  have h0 := h
  obtain ⟨hl, h2⟩ := h
  rcases h2 with ⟨_, hn⟩ | ⟨g, cap, cur, rfl, hb, hh, hnc, hm, hcs, htake⟩
  · simp at hn
  · have hf : ∀ ys : List (Int × Int), (ys.flatMap encR).length = ys.length * 2 := fun ys => by
      induction ys with
      | nil => rfl
      | cons y ys ih => simp only [List.flatMap_cons, List.length_append, ih, encR_len, List.length_cons]; omega
    have hlen : (xs ++ [(lo, hi)]).length = xs.length + 1 := by simp
    have key : ∀ j u, (((xs ++ [(lo, hi)]).flatMap encR))[j]? = some u → w.cell? ⟨g, j, none⟩ = some u := by
      intro j u hu
      rw [cell_of_row w g j cur e (0, 0) hh]
      have hj := (List.getElem?_eq_some_iff.1 hu).1
      rw [hf] at hj
      rw [← htake, List.getElem?_take, if_pos hj] at hu
      simpa using hu
    have e1 : (xs ++ [(lo, hi)]).flatMap encR = xs.flatMap encR ++ [.int .i64 lo, .int .i64 hi] := by simp [encR]
    refine ⟨g, cap, by rw [hlen], hb, (Array.getElem?_eq_some_iff.1 hh).1, key _ _ ?_, key _ _ ?_, frozen_of_row w g _ cur e hh, fun u => ?_⟩
    · rw [e1, ← hf, List.getElem?_append_right (Nat.le_refl _)]; simp
    · rw [e1, ← hf, List.getElem?_append_right (by omega)]; simp
    · have hs := (World.ownsRow.stored h0 (xs.length * 2 + 1) (.int .i64 u)).1
      have e2 : ((xs ++ [(lo, hi)]).flatMap encR).set (xs.length * 2 + 1) (.int .i64 u) = (xs ++ [(lo, u)]).flatMap encR := by
        rw [e1, ← hf, List.set_append_right _ _ (by omega)]
        simp [encR]
      rw [e2] at hs
      have e3 : (xs ++ [(lo, u)]).length = (xs ++ [(lo, hi)]).length := by simp
      unfold OwnR Own
      rw [e3]
      exact hs
theorem encR_one (x : Int × Int) : ∀ u ∈ encR x, u.oneCell' = true := by
  intro u hu
  simp only [encR, List.mem_cons, List.not_mem_nil, or_false] at hu
  rcases hu with rfl | rfl <;> rfl
theorem encI_one (x : Int) : ∀ u ∈ encI x, u.oneCell' = true := by
  intro u hu
  simp only [encI, List.mem_cons, List.not_mem_nil, or_false] at hu
  rw [hu]; rfl
end Go.Proofs.Mp
set_option linter.unusedVariables false
set_option linter.unusedSimpArgs false
namespace Go.Proofs
open Go.RowKit Go.Proofs.Mp

theorem call_i {f : FuncId} {args : Array Value} {w : World} {x y : Int} (h : Calls Try.prog f args w (RetV w (.int .i64 x))) (e : x = y) : Calls Try.prog f args w (RetV w (.int .i64 y)) := e ▸ h
theorem call_b {f : FuncId} {args : Array Value} {w : World} {x y : Bool} (h : Calls Try.prog f args w (RetV w (.bool x))) (e : x = y) : Calls Try.prog f args w (RetV w (.bool y)) := e ▸ h

/-- lists that agree so far -/
def agree (xs ys : List Int) (k : Nat) : Prop := ∀ j, j < k → xs[j]! = ys[j]!
theorem agree_succ {xs ys : List Int} {k : Nat} (h : agree xs ys k) (hk : xs[k]! = ys[k]!) : agree xs ys (k + 1) := by
  intro j hj
  rcases Nat.lt_succ_iff_lt_or_eq.1 hj with h1 | rfl
  · exact h j h1
  · exact hk
theorem agree_all {xs ys : List Int} (hl : xs.length = ys.length) (h : agree xs ys xs.length) : xs = ys := by
  apply List.ext_getElem hl
  intro i h1 h2
  have := h i h1
  simpa [h1, h2] using this


def noneTo (zs : List Int) (x : Int) (k : Nat) : Prop := ∀ j, j < k → zs[j]! ≠ x
theorem noneTo_succ {zs : List Int} {x : Int} {k : Nat} (h : noneTo zs x k) (hk : zs[k]! ≠ x) : noneTo zs x (k + 1) := by
  intro j hj
  rcases Nat.lt_succ_iff_lt_or_eq.1 hj with h1 | rfl
  · exact h j h1
  · exact hk

end Go.Proofs
/- Words for memory, continued: a whole slice appended to a row of the call's own. No program is named here. -/
namespace Go.Proofs.Mp
open Go.RowKit
section
variable {P : Program} {w : World}

theorem run_append_zero (t ty e : TypeId) (i : TypeInfo) (ht : P.underlying t = some (.slice e)) (hi : P.info? e = some i) (B A : Option Addr) (n m c : Nat) (hle : n ≤ m) :
    (Builtin.append_ #[t, t] ty #[.slice B n m, .slice A 0 c]).run P w = .ok (.slice B n m) w := by
  have h0 : (Builtin.firstCells i.size 0 (.slice A 0 c)).run P w = .ok #[] w := by
    cases A with
    | none => exact run_firstCells_none (P := P) w i.size 0 0 c
    | some a => exact run_firstCells_some (P := P) w i.size 0 a 0 c [] (by simp) (fun j v h => by simp at h)
  cases B <;> simp [Builtin.append_, run_underlying ht, sizeOf, typeInfo, hi, Builtin.lenOf, h0, hle, storeCells]

/-- append(out, x..): the elements that the slice x reads as. -/
theorem Own.wpAll {α : Type} [Inhabited α] {e : TypeId} {k : Nat} {enc : α → List Value} {base : Nat} {v : Value} {xs ys : List α} {o : Oper} {a : Act} {K : Act → World → Prop} {Q : Exit → Act → World → Prop} (t : TypeId) (i : TypeInfo) (z : Value) (bytes : Nat)
    (ht : P.underlying t = some (.slice e)) (hi : P.info? e = some i) (hz : i.zero = some z)
    (hsize : i.size = k) (hby : i.bytes = bytes) (hzs : z.cells.size = k) (hsz : 0 < k) (hbpos : 0 < bytes)
    (hk : ∀ x, (enc x).length = k) (h1 : ∀ x, ∀ u ∈ enc x, u.oneCell' = true) (s x : Operand)
    (ho : o.op = .call { callee := .builtin .append, args := #[s, x], argTypes := #[t, t] })
    (hown : Own e k enc w base v xs) (hs : a.eval s = v) {A : Option Addr} {c : Nat} (hR : Rd k enc w A ys) (hx : a.eval x = .slice A ys.length c)
    (hbytes : (xs.length + ys.length) * bytes ≤ 140737488355328) (hbase : base ≤ w.heap.size)
    (h : ∀ v' w', Own e k enc w' base v' (xs ++ ys) → Below base w w' → K (a.put o.dst v') w') : o.wp P a w K Q := by
  have hle : xs.length + ys.length ≤ (xs.length + ys.length) * bytes := Nat.le_mul_of_pos_right _ hbpos
  have fin : ∀ v' w', w'.ownsRow base e k v' (xs.length + ys.length) (xs.flatMap enc ++ ys.flatMap enc) → w.grownBy w' v.ownBlock → K (a.put o.dst v') w' := by
    intro v' w' ho' hg
    refine h v' w' ?_ ?_
    · unfold Own
      simpa using ho'
    · exact (Below.refl _ _).grown hg hbase (fun j hj => (World.ownsRow.lt hown j hj).1)
  by_cases hn : ys = []
  · subst hn
    simp only [List.length_nil] at hx
    obtain ⟨B, m, rfl, hm⟩ : ∃ B m, v = .slice B xs.length m ∧ xs.length ≤ m := by
      rcases hown.2 with ⟨rfl, h0⟩ | ⟨g, cap, cur, rfl, _, _, hnc, _⟩
      · exact ⟨none, 0, by rw [h0], by omega⟩
      · exact ⟨_, cap, rfl, hnc⟩
    have hr := run_append_zero (P := P) (w := w) t o.type e i ht hi B A xs.length m c hm
    unfold Oper.wp execOp
    simp only [ho, resolve, invoke, builtin, Sem.run_bind, Sem.run_pure, Result.andThen_ok, List.map_toArray, List.map_cons, List.map_nil, hs, hx, hr]
    exact h _ w (by simpa using hown) (Below.refl _ _)
  · obtain ⟨ad, rfl, hc⟩ := Rd.flat hk hsz hR hn
    refine wp_append_own w s x t ho base e i z k bytes ht hi hz hsize hby hzs hsz v xs.length (xs.flatMap enc) hs hown ad ys.length c (ys.flatMap enc) hx (flat_len hk ys) hc ?_ (by unfold maxLen; omega) hbytes hbase ?_
    · intro u hu
      obtain ⟨y, _, hy⟩ := List.mem_flatMap.1 hu
      exact h1 y u hy
    · intro v' w' h2 h3 _
      exact fin v' w' h2 h3
end
end Go.Proofs.Mp
set_option linter.unusedVariables false
set_option linter.unusedSimpArgs false
namespace Go.Proofs
open Go.RowKit Go.Proofs.Mp

abbrev Asc (l : List Int) : Prop := l.Pairwise (· < ·)


theorem Asc.unique : ∀ {a b : List Int}, Asc a → Asc b → (∀ x, x ∈ a ↔ x ∈ b) → a = b
  | [], [], _, _, _ => rfl
  | [], s :: bs, _, _, h => absurd ((h s).2 List.mem_cons_self) (by simp)
  | r :: rs, [], _, _, h => absurd ((h r).1 List.mem_cons_self) (by simp)
  | r :: rs, s :: bs, ha, hb, h => by
    obtain ⟨ha1, ha2⟩ := List.pairwise_cons.1 ha
    obtain ⟨hb1, hb2⟩ := List.pairwise_cons.1 hb
    have e : r = s := by
      rcases List.mem_cons.1 ((h r).1 List.mem_cons_self) with e | m1
      · exact e
      · rcases List.mem_cons.1 ((h s).2 List.mem_cons_self) with e | m2
        · exact e.symm
        · have := hb1 r m1; have := ha1 s m2; omega
    subst e
    congr 1
    refine Asc.unique ha2 hb2 fun x => ?_
    constructor
    · intro hx
      rcases List.mem_cons.1 ((h x).1 (List.mem_cons_of_mem _ hx)) with rfl | m
      · exact absurd (ha1 x hx) (by omega)
      · exact m
    · intro hx
      rcases List.mem_cons.1 ((h x).2 (List.mem_cons_of_mem _ hx)) with rfl | m
      · exact absurd (hb1 x hx) (by omega)
      · exact m
theorem Mp.info_parts {P : Program} {t : TypeId} {z : Value} {s b : Nat} (h : (P.info? t).map (fun i => (i.zero, i.size, i.bytes)) = some (some z, s, b)) : ∃ i, P.info? t = some i ∧ i.zero = some z ∧ i.size = s ∧ i.bytes = b := by
  cases hi : P.info? t with
  | none => rw [hi] at h; simp at h
  | some i =>
    rw [hi] at h
    simp at h
    exact ⟨i, rfl, h.1, h.2.1, h.2.2⟩
theorem Try.infoI : (Try.prog.info? 3).map (fun i => (i.zero, i.size, i.bytes)) = some (some (.int .i64 0), 1, 8) := by kernel_rfl



theorem Try.appAll {w : World} {base : Nat} {v : Value} {xs ys : List Int} {ops : Array Oper} {rest : List Oper} {o : Oper} {a : Act} {Q : Exit → Act → World → Prop}
    (hown : OwnI 3 w base v xs) {A : Option Addr} {c : Nat} (hR : RdI w A ys) (hgd : o.guard = none) (s x : Operand)
    (ho : o.op = .call { callee := .builtin .append, args := #[s, x], argTypes := #[24, 24] }) (hs : a.eval s = v) (hx : a.eval x = .slice A ys.length c)
    (hN : xs.length + ys.length ≤ 1000000000000) (hbase : base ≤ w.heap.size)
    (h : ∀ v' w', OwnI 3 w' base v' (xs ++ ys) → Below base w w' → wpList Try.prog ops Q rest (a.put o.dst v') w') :
    wpList Try.prog ops Q (o :: rest) a w := by
  obtain ⟨i0, hi, hz0, hz1, hz2⟩ := Mp.info_parts Try.infoI
  exact wpList_plain hgd fun _ hK => Own.wpAll 24 i0 (.int .i64 0) 8 Try.underlying24 hi hz0 hz1 hz2 rfl (by decide) (by decide) encI_len encI_one s x ho hown hs hR hx (by omega) hbase fun v' w' h2 h3 => hK _ _ (h v' w' h2 h3)

theorem Try.appI {w : World} {base : Nat} {v : Value} {xs : List Int} {ops : Array Oper} {rest : List Oper} {o : Oper} {a : Act} {Q : Exit → Act → World → Prop}
    (hown : OwnI 3 w base v xs) (y : Int) (hgd : o.guard = none) (s x : Operand)
    (ho : o.op = .call { callee := .builtin .append, args := #[s, x], argTypes := #[24, 24] }) (hs : a.eval s = v) (hx : a.eval x = .slice (some ⟨w.heap.size, 0, none⟩) 1 1)
    (hN : xs.length + 1 ≤ 1000000000000) (hbase : base ≤ w.heap.size)
    (h : ∀ v' w', OwnI 3 w' base v' (xs ++ [y]) → Below base w w' → wpList Try.prog ops Q rest (a.put o.dst v') w') :
    wpList Try.prog ops Q (o :: rest) a (w.alloc (.cells #[.int .i64 y] 3)) := by
  obtain ⟨i0, hi, hz0, hz1, hz2⟩ := Mp.info_parts Try.infoI
  exact Own.append1 24 i0 (.int .i64 0) 8 Try.underlying24 hi hz0 hz1 hz2 rfl (by decide) (by decide) encI_len encI_one hgd s x ho hown hs y hx (by omega) hbase h

theorem filter_take_succ (p : Int → Bool) (l : List Int) (k : Nat) (h : k < l.length) : (l.take (k + 1)).filter p = (l.take k).filter p ++ (if p l[k]! then [l[k]!] else []) := by
  rw [List.take_succ_eq_append_getElem h, List.filter_append]
  congr 1
  simp [h, List.filter_cons]

end Go.Proofs
/- A row of the call's own: where a longer one lies. No program is named here. -/
set_option linter.unusedVariables false
set_option linter.unusedSimpArgs false
namespace Go.Proofs
open Go.RowKit Go.Proofs.Mp

/-- a row of the call's own that lies in no block of av -/
def Mp.OwnA {α : Type} (e k : Nat) (enc : α → List Value) (w : World) (base : Nat) (av : Nat → Prop) (v : Value) (xs : List α) : Prop :=
  Own e k enc w base v xs ∧ ∀ j, v.ownBlock = some j → ¬ av j

section
variable {α : Type} {e k : Nat} {enc : α → List Value} {w w' : World} {base : Nat} {av : Nat → Prop} {v : Value} {xs : List α}
theorem Mp.OwnA.lt (h : OwnA e k enc w base av v xs) {j : Nat} (hj : v.ownBlock = some j) : base ≤ j ∧ j < w.heap.size := World.ownsRow.lt h.1 j hj
theorem Mp.OwnA.kept (h : OwnA e k enc w base av v xs) {row : Option Nat} (hg : w.grownBy w' row) (hne : v.ownBlock = none ∨ v.ownBlock ≠ row) : OwnA e k enc w' base av v xs :=
  ⟨World.ownsRow.kept h.1 hg hne, h.2⟩
theorem Mp.OwnA.alloc (h : OwnA e k enc w base av v xs) (o : Obj) : OwnA e k enc (w.alloc o) base av v xs := ⟨h.1.alloc o, h.2⟩
theorem Mp.OwnA.weak (h : OwnA e k enc w base av v xs) {av' : Nat → Prop} (hav : ∀ j, v.ownBlock = some j → ¬ av' j) : OwnA e k enc w base av' v xs := ⟨h.1, hav⟩
theorem Mp.OwnA.nil (w : World) (base : Nat) (av : Nat → Prop) : OwnA e k enc w base av (.slice none 0 0) [] := ⟨Own.nil w base, fun j hj => by cases hj⟩

/-- append(out, x): where the new row lies is told -/
theorem Mp.OwnA.append1 {P : Program} {ops : Array Oper} {rest : List Oper} {o : Oper} {a : Act} {Q : Exit → Act → World → Prop} (t : TypeId) (i : TypeInfo) (z : Value) (bytes : Nat)
    (ht : P.underlying t = some (.slice e)) (hi : P.info? e = some i) (hz : i.zero = some z)
    (hsize : i.size = k) (hby : i.bytes = bytes) (hzs : z.cells.size = k) (hsz : 0 < k) (hbpos : 0 < bytes)
    (hk : ∀ x, (enc x).length = k) (y : α) (h1 : ∀ u ∈ enc y, u.oneCell' = true) (hgd : o.guard = none) (s x : Operand)
    (ho : o.op = .call { callee := .builtin .append, args := #[s, x], argTypes := #[t, t] })
    (hown : OwnA e k enc w base av v xs) (hav : ∀ j, av j → j < w.heap.size) (hs : a.eval s = v) (hx : a.eval x = .slice (some ⟨w.heap.size, 0, none⟩) 1 1)
    (hbytes : (xs.length + 1) * bytes ≤ 140737488355328) (hbase : base ≤ w.heap.size)
    (h : ∀ v' w', OwnA e k enc w' base av v' (xs ++ [y]) → w.grownBy w' v.ownBlock → (v'.ownBlock = v.ownBlock ∨ ∃ j, v'.ownBlock = some j ∧ w.heap.size ≤ j) → wpList P ops Q rest (a.put o.dst v') w') :
    wpList P ops Q (o :: rest) a (w.alloc (.cells (enc y).toArray e)) := by
  have hle : xs.length + 1 ≤ (xs.length + 1) * bytes := Nat.le_mul_of_pos_right _ hbpos
  have hadd : ∀ j, (⟨w.heap.size, 0, none⟩ : Addr).add j = ⟨w.heap.size, j, none⟩ := fun j => by
    unfold Addr.add
    split
    · simp_all
    · simp
  refine wpList_append_own_at _ hgd s x t ho base e i z k bytes ht hi hz hsize hby hzs hsz v xs.length (xs.flatMap enc) hs (hown.1.alloc _) ⟨w.heap.size, 0, none⟩ 1 1 (enc y) hx (by simp [hk]) ?_ h1
    (by unfold maxLen; omega) hbytes (by simp; omega) ?_
  · intro j u hu
    rw [hadd, cell_of_row _ w.heap.size j _ e (0, 0) (heap_alloc_new w _)]
    simpa using hu
  · intro v' w' hown' hg _ hloc
    have hg' : w.grownBy w' v.ownBlock := (World.grownBy_alloc w _ _).trans hg
    refine h v' w' ⟨?_, ?_⟩ hg' ?_
    · unfold Own
      simpa using hown'
    · intro j hj hj'
      rcases hloc with hl | hl
      · exact hown.2 j (hl ▸ hj) hj'
      · rw [hl] at hj
        injection hj with hj
        have := hav j hj'
        simp at hj
        omega
    · rcases hloc with hl | hl
      · exact .inl hl
      · exact .inr ⟨_, hl, by simp⟩
end

end Go.Proofs
