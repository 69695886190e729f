import Derived.Test.YtoknjlodhohioaaT14
import Derived.Maps.AppendAt
import Derived.Laws.OwnMore
set_option linter.unusedVariables false
set_option linter.unusedSimpArgs false
namespace Go.Proofs
open Go.RowKit Go.Proofs.Mp Go.Proofs.Uf

/-- a row of the call's own that lies in no block of av -/
def Mp.OwnA {α : Type} (e k : Nat) (enc : α → List Value) (w : World) (base : Nat) (av : Nat → Prop) (v : Value) (xs : List α) : Prop :=
  Own e k enc w base v xs ∧ ∀ j, v.ownBlock = some j → ¬ av j

section
variable {α : Type} {e k : Nat} {enc : α → List Value} {w w' : World} {base : Nat} {av : Nat → Prop} {v : Value} {xs : List α}
theorem Mp.OwnA.lt (h : OwnA e k enc w base av v xs) {j : Nat} (hj : v.ownBlock = some j) : base ≤ j ∧ j < w.heap.size := World.ownsRow.lt h.1 j hj
theorem Mp.OwnA.kept (h : OwnA e k enc w base av v xs) {row : Option Nat} (hg : w.grownBy w' row) (hne : v.ownBlock = none ∨ v.ownBlock ≠ row) : OwnA e k enc w' base av v xs :=
  ⟨World.ownsRow.kept h.1 hg hne, h.2⟩
theorem Mp.OwnA.alloc (h : OwnA e k enc w base av v xs) (o : Obj) : OwnA e k enc (w.alloc o) base av v xs := ⟨h.1.alloc o, h.2⟩
theorem Mp.OwnA.weak (h : OwnA e k enc w base av v xs) {av' : Nat → Prop} (hav : ∀ j, v.ownBlock = some j → ¬ av' j) : OwnA e k enc w base av' v xs := ⟨h.1, hav⟩
theorem Mp.OwnA.nil (w : World) (base : Nat) (av : Nat → Prop) : OwnA e k enc w base av (.slice none 0 0) [] := ⟨Own.nil w base, fun j hj => by cases hj⟩

/-- append(out, x): where the new row lies is told -/
theorem Mp.OwnA.append1 {P : Program} {ops : Array Oper} {rest : List Oper} {o : Oper} {a : Act} {Q : Exit → Act → World → Prop} (t : TypeId) (i : TypeInfo) (z : Value) (bytes : Nat)
    (ht : P.underlying t = some (.slice e)) (hi : P.info? e = some i) (hz : i.zero = some z)
    (hsize : i.size = k) (hby : i.bytes = bytes) (hzs : z.cells.size = k) (hsz : 0 < k) (hbpos : 0 < bytes)
    (hk : ∀ x, (enc x).length = k) (y : α) (h1 : ∀ u ∈ enc y, u.oneCell' = true) (hgd : o.guard = none) (s x : Operand)
    (ho : o.op = .call { callee := .builtin .append, args := #[s, x], argTypes := #[t, t] })
    (hown : OwnA e k enc w base av v xs) (hav : ∀ j, av j → j < w.heap.size) (hs : a.eval s = v) (hx : a.eval x = .slice (some ⟨w.heap.size, 0, none⟩) 1 1)
    (hbytes : (xs.length + 1) * bytes ≤ 140737488355328) (hbase : base ≤ w.heap.size)
    (h : ∀ v' w', OwnA e k enc w' base av v' (xs ++ [y]) → w.grownBy w' v.ownBlock → (v'.ownBlock = v.ownBlock ∨ ∃ j, v'.ownBlock = some j ∧ w.heap.size ≤ j) → wpList P ops Q rest (a.put o.dst v') w') :
    wpList P ops Q (o :: rest) a (w.alloc (.cells (enc y).toArray e)) := by
  have hle : xs.length + 1 ≤ (xs.length + 1) * bytes := Nat.le_mul_of_pos_right _ hbpos
  have hadd : ∀ j, (⟨w.heap.size, 0, none⟩ : Addr).add j = ⟨w.heap.size, j, none⟩ := fun j => by
    unfold Addr.add
    split
    · simp_all
    · simp
  refine wpList_append_own_at _ hgd s x t ho base e i z k bytes ht hi hz hsize hby hzs hsz v xs.length (xs.flatMap enc) hs (hown.1.alloc _) ⟨w.heap.size, 0, none⟩ 1 1 (enc y) hx (by simp [hk]) ?_ h1
    (by unfold maxLen; omega) hbytes (by simp; omega) ?_
  · intro j u hu
    rw [hadd, cell_of_row _ w.heap.size j _ e (0, 0) (heap_alloc_new w _)]
    simpa using hu
  · intro v' w' hown' hg _ hloc
    have hg' : w.grownBy w' v.ownBlock := (World.grownBy_alloc w _ _).trans hg
    refine h v' w' ⟨?_, ?_⟩ hg' ?_
    · unfold Own
      simpa using hown'
    · intro j hj hj'
      rcases hloc with hl | hl
      · exact hown.2 j (hl ▸ hj) hj'
      · rw [hl] at hj
        injection hj with hj
        have := hav j hj'
        simp at hj
        omega
    · rcases hloc with hl | hl
      · exact .inl hl
      · exact .inr ⟨_, hl, by simp⟩
end

def encV (v : Value) : List Value := [v]
theorem encV_len (v : Value) : (encV v).length = 1 := rfl

/-- rows of the call's own in a row of the call's own, no two in one block -/
def Mp.Nest (te ti : TypeId) (w : World) (base : Nat) (av : Nat → Prop) (vout : Value) (gs : List (List Int)) : Prop :=
  ∃ vs : List Value, vs.length = gs.length ∧ OwnA te 1 encV w base av vout vs ∧
    ∀ i, i < vs.length → OwnA ti 1 Mp.encI w base (fun j => av j ∨ vout.ownBlock = some j ∨ ∃ i', i' ≠ i ∧ i' < vs.length ∧ vs[i']!.ownBlock = some j) vs[i]! gs[i]!

section
variable {te ti : TypeId} {w w' : World} {base : Nat} {av : Nat → Prop} {vout : Value} {gs : List (List Int)}
theorem Mp.Nest.nil (w : World) (base : Nat) (av : Nat → Prop) : Nest te ti w base av (.slice none 0 0) [] := ⟨[], rfl, OwnA.nil w base av, fun i hi => by simp at hi⟩
theorem Mp.Nest.kept (h : Nest te ti w base av vout gs) {row : Option Nat} (hg : w.grownBy w' row) (hrow : ∀ j, row = some j → av j ∨ j < base) : Nest te ti w' base av vout gs := by
  obtain ⟨vs, h1, h2, h3⟩ := h
  have key : ∀ {u : Value} {av' : Nat → Prop}, (∀ j, u.ownBlock = some j → ¬ av j ∧ base ≤ j) → (u.ownBlock = none ∨ u.ownBlock ≠ row) := by
    intro u av' hu
    rcases ho : u.ownBlock with _ | j
    · exact .inl rfl
    · right
      intro e
      have := hu j ho
      rcases hrow j e.symm with h | h
      · exact this.1 h
      · omega
  refine ⟨vs, h1, h2.kept hg (key (av' := av) fun j hj => ⟨h2.2 j hj, (h2.lt hj).1⟩), fun i hi => (h3 i hi).kept hg (key (av' := av) fun j hj => ⟨fun h => (h3 i hi).2 j hj (.inl h), ((h3 i hi).lt hj).1⟩)⟩
theorem Mp.Nest.get (h : Nest te ti w base av vout gs) {i : Nat} (hi : i < gs.length) : ∃ g cap vi ni ci, vout = .slice (some ⟨g, 0, none⟩) gs.length cap ∧ gs.length ≤ cap ∧ base ≤ g ∧ vi = Value.slice ni gs[i]!.length ci ∧ w.cell? ⟨g, i, none⟩ = some vi ∧ w.frozen? ⟨g, i, none⟩ = false ∧ OwnA ti 1 Mp.encI w base (fun j => av j ∨ j = g) vi gs[i]! ∧
    ∀ v' w' x, OwnA ti 1 Mp.encI w' base (fun j => av j ∨ j = g) v' (gs[i]! ++ [x]) → w.grownBy w' vi.ownBlock → (v'.ownBlock = vi.ownBlock ∨ ∃ j, v'.ownBlock = some j ∧ w.heap.size ≤ j) →
      Nest te ti (w'.setCell ⟨g, i, none⟩ v') base av vout (gs.set i (gs[i]! ++ [x])) := by
  obtain ⟨vs, h1, h2, h3⟩ := h
  have hi' : i < vs.length := by omega
  obtain ⟨g, cap, rfl, hncap, hbg, hcell⟩ : ∃ g cap, vout = .slice (some ⟨g, 0, none⟩) vs.length cap ∧ vs.length ≤ cap ∧ base ≤ g ∧ w.cell? ⟨g, i, none⟩ = some vs[i]! := by
    have h20 := h2.1
    rcases h2.1.2 with ⟨_, h0⟩ | ⟨g, cap, cur, hv, hb, hh, hnc, _⟩
    · omega
    · refine ⟨g, cap, hv, hnc, hb, ?_⟩
      rw [hv] at h20
      have hR := Own.rd encV_len h20
      obtain ⟨b, off, he, _, hc⟩ := Rd.get hR (Below.refl _ _) hi'
      injection he with he
      injection he with e1 e2
      subst e1; subst e2
      simpa using hc i hi' 0 _ rfl
  have hii := h3 i hi'
  obtain ⟨A, c, hsl⟩ := Own.slice hii.1
  have hgb : ∀ j, j < vs.length → vs[j]!.ownBlock ≠ some g := fun j hj he => (h3 j hj).2 g he (.inr (.inl rfl))
  have hglt : g < w.heap.size := (h2.lt (j := g) rfl).2
  refine ⟨g, cap, vs[i]!, A, c, by rw [h1], by omega, hbg, hsl, hcell, World.ownsRow.frozenAt h2.1 i, hii.weak fun j hj hj' => ?_, ?_⟩
  · rcases hj' with h | rfl
    · exact hii.2 j hj (.inl h)
    · exact hgb i hi' hj
  · intro v' w' x hown' hg hloc
    have hgi : some g ≠ vs[i]!.ownBlock := fun e => hgb i hi' e.symm
    have ho : OwnA te 1 encV w' base av (.slice (some ⟨g, 0, none⟩) vs.length cap) vs := h2.kept hg (.inr hgi)
    obtain ⟨hst, hgs⟩ := World.ownsRow.stored ho.1 i v'
    have hv'g : v'.ownBlock ≠ some g := fun e => hown'.2 g e (.inr rfl)
    have hsz : w.heap.size ≤ w'.heap.size := hg.size
    have hget : ∀ j, j < vs.length → (vs.set i v')[j]! = if i = j then v' else vs[j]! := by
      intro j hj
      rw [getElem!_pos (vs.set i v') j (by simpa using hj), getElem!_pos vs j hj, List.getElem_set]
    have hgetg : ∀ j, j < gs.length → (gs.set i (gs[i]! ++ [x]))[j]! = if i = j then gs[i]! ++ [x] else gs[j]! := by
      intro j hj
      rw [getElem!_pos (gs.set i (gs[i]! ++ [x])) j (by simpa using hj), List.getElem_set]
      split
      · rfl
      · rw [getElem!_pos gs j hj]
    refine ⟨vs.set i v', by simp [h1], ⟨?_, ho.2⟩, fun j hj => ?_⟩
    · unfold Own
      have e : (vs.set i v').flatMap encV = (vs.flatMap encV).set i v' := by
        have key : ∀ l : List Value, l.flatMap encV = l := fun l => by induction l with
          | nil => rfl
          | cons y ys ih => rw [List.flatMap_cons, ih]; rfl
        rw [key, key]
      rw [e]
      simpa using hst
    · have hj' : j < vs.length := by simpa using hj
      rw [hget j hj', hgetg j (by omega)]
      by_cases hij : i = j
      · subst hij
        rw [if_pos rfl, if_pos rfl]
        refine ⟨ownsRow_setCell_other hown'.1 (by simpa using hv'g) _, fun m hm hm' => ?_⟩
        rcases hm' with h | h | ⟨i', h4, h5, h6⟩
        · exact hown'.2 m hm (.inl h)
        · exact hown'.2 m hm (.inr (by simpa [Value.ownBlock] using h.symm))
        · have h5' : i' < vs.length := by simpa using h5
          rw [hget i' h5', if_neg (Ne.symm h4)] at h6
          rcases hloc with hl | ⟨n, hl, hn⟩
          · rw [hl] at hm
            exact (h3 i hi').2 m hm (.inr (.inr ⟨i', h4, h5', h6⟩))
          · rw [hl] at hm
            injection hm with hm
            have := ((h3 i' h5').lt h6).2
            omega
      · rw [if_neg hij, if_neg hij]
        have hne : vs[j]!.ownBlock = none ∨ vs[j]!.ownBlock ≠ vs[i]!.ownBlock := by
          rcases hq : vs[j]!.ownBlock with _ | q
          · exact .inl rfl
          · right
            intro e
            exact (h3 j hj').2 q hq (.inr (.inr ⟨i, hij, hi', e.symm⟩))
        refine ⟨ownsRow_setCell_other ((h3 j hj').kept hg hne).1 (by simpa using hgb j hj') _, fun m hm hm' => ?_⟩
        rcases hm' with h | h | ⟨i', h4, h5, h6⟩
        · exact (h3 j hj').2 m hm (.inl h)
        · exact (h3 j hj').2 m hm (.inr (.inl h))
        · have h5' : i' < vs.length := by simpa using h5
          rw [hget i' h5'] at h6
          by_cases hii' : i = i'
          · rw [if_pos hii'] at h6
            rcases hloc with hl | ⟨n, hl, hn⟩
            · rw [hl] at h6
              exact (h3 j hj').2 m hm (.inr (.inr ⟨i, hij, hi', h6⟩))
            · rw [hl] at h6
              injection h6 with h6
              have := ((h3 j hj').lt hm).2
              omega
          · rw [if_neg hii'] at h6
            exact (h3 j hj').2 m hm (.inr (.inr ⟨i', h4, h5', h6⟩))

/-- append(out, nil) -/
theorem Mp.Nest.push {vs : List Value} (h1 : vs.length = gs.length) (h2 : OwnA te 1 encV w base av vout vs)
    (h3 : ∀ i, i < vs.length → OwnA ti 1 Mp.encI w base (fun j => av j ∨ vout.ownBlock = some j ∨ ∃ i', i' ≠ i ∧ i' < vs.length ∧ vs[i']!.ownBlock = some j) vs[i]! gs[i]!) {v' : Value} (hg : w.grownBy w' vout.ownBlock)
    (hloc : v'.ownBlock = vout.ownBlock ∨ ∃ j, v'.ownBlock = some j ∧ w.heap.size ≤ j) (hown : OwnA te 1 encV w' base av v' (vs ++ [.slice none 0 0])) : Nest te ti w' base av v' (gs ++ [[]]) := by
  have hget : ∀ (l : List Value) (u : Value) j, (l ++ [u])[j]! = if j < l.length then l[j]! else if j = l.length then u else default := by
    intro l u j
    by_cases hj : j < l.length
    · rw [if_pos hj, getElem!_pos (l ++ [u]) j (by simp; omega), getElem!_pos l j hj, List.getElem_append_left hj]
    · rw [if_neg hj]
      by_cases hj2 : j = l.length
      · subst hj2; simp
      · rw [if_neg hj2, getElem!_neg (l ++ [u]) j (by simp; omega)]
  have hgetg : ∀ (l : List (List Int)) j, (l ++ [[]])[j]! = if j < l.length then l[j]! else [] := by
    intro l j
    by_cases hj : j < l.length
    · rw [if_pos hj, getElem!_pos (l ++ [[]]) j (by simp; omega), getElem!_pos l j hj, List.getElem_append_left hj]
    · rw [if_neg hj]
      by_cases hj2 : j = l.length
      · subst hj2; simp
      · rw [getElem!_neg (l ++ [[]]) j (by simp; omega)]; rfl
  refine ⟨vs ++ [.slice none 0 0], by simp [h1], hown, fun i hi => ?_⟩
  simp only [List.length_append, List.length_singleton] at hi
  rw [hget, hgetg, ← h1]
  by_cases hil : i < vs.length
  · rw [if_pos hil, if_pos hil]
    have hne : vs[i]!.ownBlock = none ∨ vs[i]!.ownBlock ≠ vout.ownBlock := by
      rcases hq : vs[i]!.ownBlock with _ | q
      · exact .inl rfl
      · right
        intro e
        exact (h3 i hil).2 q hq (.inr (.inl e.symm))
    refine ((h3 i hil).kept hg hne).weak fun m hm hm' => ?_
    rcases hm' with h | h | ⟨i', h4, h5, h6⟩
    · exact (h3 i hil).2 m hm (.inl h)
    · rcases hloc with hl | ⟨n, hl, hn⟩
      · rw [hl] at h; exact (h3 i hil).2 m hm (.inr (.inl h))
      · rw [hl] at h
        injection h with h
        have := ((h3 i hil).lt hm).2
        omega
    · rw [hget] at h6
      split at h6
      · rename_i h7; exact (h3 i hil).2 m hm (.inr (.inr ⟨i', h4, h7, h6⟩))
      · split at h6
        · cases h6
        · cases h6
  · rw [if_neg hil, if_neg hil, if_pos (by omega)]
    exact OwnA.nil w' base _
end
end Go.Proofs
