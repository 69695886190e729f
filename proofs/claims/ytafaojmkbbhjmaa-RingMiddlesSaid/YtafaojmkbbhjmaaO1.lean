/- A row of the call's own: where a longer one lies. No program is named here. -/
import Derived.Test.YtafaojmkbbhjmaaBase
import Derived.Maps.AppendAt
import Derived.Laws.OwnMore
set_option linter.unusedVariables false
set_option linter.unusedSimpArgs false
namespace Go.Proofs
open Go.RowKit Go.Proofs.Mp

/-- a row of the call's own that lies in no block of av -/
def Mp.OwnA {α : Type} (e k : Nat) (enc : α → List Value) (w : World) (base : Nat) (av : Nat → Prop) (v : Value) (xs : List α) : Prop :=
  Own e k enc w base v xs ∧ ∀ j, v.ownBlock = some j → ¬ av j

section
variable {α : Type} {e k : Nat} {enc : α → List Value} {w w' : World} {base : Nat} {av : Nat → Prop} {v : Value} {xs : List α}
theorem Mp.OwnA.lt (h : OwnA e k enc w base av v xs) {j : Nat} (hj : v.ownBlock = some j) : base ≤ j ∧ j < w.heap.size := World.ownsRow.lt h.1 j hj
theorem Mp.OwnA.kept (h : OwnA e k enc w base av v xs) {row : Option Nat} (hg : w.grownBy w' row) (hne : v.ownBlock = none ∨ v.ownBlock ≠ row) : OwnA e k enc w' base av v xs :=
  ⟨World.ownsRow.kept h.1 hg hne, h.2⟩
theorem Mp.OwnA.alloc (h : OwnA e k enc w base av v xs) (o : Obj) : OwnA e k enc (w.alloc o) base av v xs := ⟨h.1.alloc o, h.2⟩
theorem Mp.OwnA.weak (h : OwnA e k enc w base av v xs) {av' : Nat → Prop} (hav : ∀ j, v.ownBlock = some j → ¬ av' j) : OwnA e k enc w base av' v xs := ⟨h.1, hav⟩
theorem Mp.OwnA.nil (w : World) (base : Nat) (av : Nat → Prop) : OwnA e k enc w base av (.slice none 0 0) [] := ⟨Own.nil w base, fun j hj => by cases hj⟩

/-- append(out, x): where the new row lies is told -/
theorem Mp.OwnA.append1 {P : Program} {ops : Array Oper} {rest : List Oper} {o : Oper} {a : Act} {Q : Exit → Act → World → Prop} (t : TypeId) (i : TypeInfo) (z : Value) (bytes : Nat)
    (ht : P.underlying t = some (.slice e)) (hi : P.info? e = some i) (hz : i.zero = some z)
    (hsize : i.size = k) (hby : i.bytes = bytes) (hzs : z.cells.size = k) (hsz : 0 < k) (hbpos : 0 < bytes)
    (hk : ∀ x, (enc x).length = k) (y : α) (h1 : ∀ u ∈ enc y, u.oneCell' = true) (hgd : o.guard = none) (s x : Operand)
    (ho : o.op = .call { callee := .builtin .append, args := #[s, x], argTypes := #[t, t] })
    (hown : OwnA e k enc w base av v xs) (hav : ∀ j, av j → j < w.heap.size) (hs : a.eval s = v) (hx : a.eval x = .slice (some ⟨w.heap.size, 0, none⟩) 1 1)
    (hbytes : (xs.length + 1) * bytes ≤ 140737488355328) (hbase : base ≤ w.heap.size)
    (h : ∀ v' w', OwnA e k enc w' base av v' (xs ++ [y]) → w.grownBy w' v.ownBlock → (v'.ownBlock = v.ownBlock ∨ ∃ j, v'.ownBlock = some j ∧ w.heap.size ≤ j) → wpList P ops Q rest (a.put o.dst v') w') :
    wpList P ops Q (o :: rest) a (w.alloc (.cells (enc y).toArray e)) := by
  have hle : xs.length + 1 ≤ (xs.length + 1) * bytes := Nat.le_mul_of_pos_right _ hbpos
  have hadd : ∀ j, (⟨w.heap.size, 0, none⟩ : Addr).add j = ⟨w.heap.size, j, none⟩ := fun j => by
    unfold Addr.add
    split
    · simp_all
    · simp
  refine wpList_append_own_at _ hgd s x t ho base e i z k bytes ht hi hz hsize hby hzs hsz v xs.length (xs.flatMap enc) hs (hown.1.alloc _) ⟨w.heap.size, 0, none⟩ 1 1 (enc y) hx (by simp [hk]) ?_ h1
    (by unfold maxLen; omega) hbytes (by simp; omega) ?_
  · intro j u hu
    rw [hadd, cell_of_row _ w.heap.size j _ e (0, 0) (heap_alloc_new w _)]
    simpa using hu
  · intro v' w' hown' hg _ hloc
    have hg' : w.grownBy w' v.ownBlock := (World.grownBy_alloc w _ _).trans hg
    refine h v' w' ⟨?_, ?_⟩ hg' ?_
    · unfold Own
      simpa using hown'
    · intro j hj hj'
      rcases hloc with hl | hl
      · exact hown.2 j (hl ▸ hj) hj'
      · rw [hl] at hj
        injection hj with hj
        have := hav j hj'
        simp at hj
        omega
    · rcases hloc with hl | hl
      · exact .inl hl
      · exact .inr ⟨_, hl, by simp⟩
end

end Go.Proofs
