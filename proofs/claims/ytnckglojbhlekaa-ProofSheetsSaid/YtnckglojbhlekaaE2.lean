/- Differences do not depend on which version is the older one. Plain. -/
import Derived.Test.YtnckglojbhlekaaQ17
import Derived.Test.YtnckglojbhlekaaE1
set_option linter.unusedVariables false
set_option linter.unusedSimpArgs false
namespace Go.Proofs
open Go.RowKit Go.Proofs.Mp

theorem diffTo_sym (ra rb : List Int) : ∀ k, diffTo ra rb k = diffTo rb ra k := by
  intro k
  induction k with
  | zero => rfl
  | succ k ih =>
    by_cases h : ra[k]! = rb[k]!
    · rw [diffTo_no h, diffTo_no h.symm, ih]
    · rw [diffTo_yes h, diffTo_yes (fun e => h e.symm), ih]
theorem diffTo_self (ra : List Int) : ∀ k, diffTo ra ra k = [] := by
  intro k
  induction k with
  | zero => rfl
  | succ k ih => rw [diffTo_no rfl, ih]
theorem bxE_parts {a b : P4} : bxE a b = 0 ↔ colE a = 0 ∧ colE b = 0 ∧ a.p0.w = b.p0.w ∧ a.p0.h = b.p0.h := by
  constructor
  · intro h
    obtain ⟨W, H, e1, e2, _, _, _, a0, b0, f1, f2, _⟩ := bx_exact h
    exact ⟨a0, b0, by omega, by omega⟩
  · rintro ⟨h1, h2, h3⟩
    exact bxE_z h1 h2 h3
theorem bxE_sym {a b : P4} : bxE a b = 0 ↔ bxE b a = 0 := by
  rw [bxE_parts, bxE_parts]
  constructor
  · rintro ⟨h1, h2, h3, h4⟩; exact ⟨h2, h1, h3.symm, h4.symm⟩
  · rintro ⟨h1, h2, h3, h4⟩; exact ⟨h2, h1, h3.symm, h4.symm⟩
theorem bxTo_sym {a b : P4} (h : a.p0.w = b.p0.w) : ∀ y, bxTo a b y = bxTo b a y
  | 0 => rfl
  | y + 1 => by
    show (bxRun a b y).foldl extL (bxTo a b y) = (bxRun b a y).foldl extL (bxTo b a y)
    rw [bxTo_sym h y]
    congr 1
    unfold bxRun rowRuns
    rw [diffTo_sym, h]
theorem bxR_sym (a b : P4) : bxR a b = bxR b a := by
  unfold bxR
  by_cases h : bxE a b = 0
  · rw [if_pos h, if_pos (bxE_sym.1 h)]
    obtain ⟨_, _, h3, h4⟩ := bxE_parts.1 h
    unfold bxL
    rw [bxTo_sym h3, h4]
  · rw [if_neg h, if_neg (fun g => h (bxE_sym.1 g))]
theorem bxTo_self (a : P4) : ∀ y, bxTo a a y = []
  | 0 => rfl
  | y + 1 => by
    show (bxRun a a y).foldl extL (bxTo a a y) = []
    rw [bxTo_self a y]
    unfold bxRun rowRuns
    rw [diffTo_self]
    rfl
theorem bxR_self (a : P4) : bxR a a = [] := by
  unfold bxR bxL
  rw [bxTo_self]
  split <;> rfl
def swapS : St → St
  | .one x => .one x
  | .two x y => .two y x
theorem stD_swap (s : St) : stD (swapS s) = stD s := by
  cases s with
  | one x => rfl
  | two x y =>
    show shL y.s x.s y.p x.p = shL x.s y.s x.p y.p
    unfold shL
    by_cases h : x.s = y.s
    · rw [if_pos h, if_pos h.symm, bxR_sym, h]
    · rw [if_neg h, if_neg (fun e => h e.symm)]
theorem stE_swap (s : St) : stE (swapS s) = 0 ↔ stE s = 0 := by
  cases s with
  | one x => exact Iff.rfl
  | two x y =>
    show shE y.s x.s y.p x.p = 0 ↔ shE x.s y.s x.p y.p = 0
    unfold shE
    by_cases h : x.s = y.s
    · rw [if_pos h, if_pos h.symm]; exact bxE_sym
    · rw [if_neg h, if_neg (fun e => h e.symm)]
theorem mg_swap (a b : List Pd) : mg b a = (mg a b).map swapS := by
  fun_induction mg a b with
  | case1 => rw [mg00]; rfl
  | case2 x xs ih => rw [mg01, ih]; rfl
  | case3 y ys ih => rw [mg10, ih]; rfl
  | case4 x xs y ys h ih => rw [mgR _ _ h, ih]; rfl
  | case5 x xs y ys h h2 ih => rw [mgL _ _ h2, ih]; rfl
  | case6 x xs y ys h h2 ih => rw [mgB _ _ (show y.s = x.s by omega), ih]; rfl
theorem evE_zero (l : List St) : evE l = 0 ↔ ∀ s ∈ l, stE s = 0 := by
  induction l with
  | nil => exact ⟨fun _ s hs => (by cases hs), fun _ => rfl⟩
  | cons s l ih =>
    by_cases h : stE s = 0
    · rw [ev_ok h, ih]
      constructor
      · intro g t ht
        rcases List.mem_cons.1 ht with rfl | ht
        · exact h
        · exact g t ht
      · intro g t ht; exact g t (List.mem_cons_of_mem _ ht)
    · constructor
      · intro g
        exact absurd g (by show (if stE s ≠ 0 then stE s else evE l) ≠ 0; rw [if_pos h]; exact h)
      · intro g; exact absurd (g s (by simp)) h
theorem evE_swap (l : List St) : evE (l.map swapS) = 0 ↔ evE l = 0 := by
  rw [evE_zero, evE_zero]
  constructor
  · intro h s hs
    exact (stE_swap s).1 (h _ (List.mem_map_of_mem hs))
  · intro h t ht
    obtain ⟨s, hs, rfl⟩ := List.mem_map.1 ht
    exact (stE_swap s).2 (h s hs)
theorem evA_swap (l : List St) : evA (l.map swapS) = evA l := by
  unfold evA
  rw [List.flatMap_map]
  simp only [stD_swap]
theorem evL_swap (l : List St) : evL (l.map swapS) = evL l := by
  unfold evL
  rw [evA_swap]
  by_cases h : evE l = 0
  · rw [if_pos h, if_pos ((evE_swap l).2 h)]
  · rw [if_neg h, if_neg (fun g => h ((evE_swap l).1 g))]
theorem er_sym (a b : List Pd) : (erE a b = 0 ↔ erE b a = 0) ∧ erL a b = erL b a := by
  unfold erE erL
  by_cases h : ascB (shs a) = true ∧ ascB (shs b) = true
  · rw [if_pos h, if_pos h, if_pos h.symm, if_pos h.symm, mg_swap a b]
    exact ⟨(evE_swap _).symm, (evL_swap _).symm⟩
  · rw [if_neg h, if_neg h, if_neg (fun g => h g.symm), if_neg (fun g => h g.symm)]
    exact ⟨Iff.rfl, rfl⟩
theorem mg_self : ∀ a : List Pd, mg a a = a.map fun q => St.two q q
  | [] => mg00
  | x :: a => by rw [mgB a a rfl, mg_self a]; rfl
theorem er_self (a : List Pd) : erL a a = [] := by
  unfold erL
  split
  · unfold evL
    rw [mg_self]
    have h : evA (a.map fun q => St.two q q) = [] := by
      unfold evA
      rw [List.flatMap_map, List.flatMap_eq_nil_iff]
      intro q _
      show shL q.s q.s q.p q.p = []
      unfold shL
      rw [if_pos rfl, bxR_self]; rfl
    rw [h]
    split <;> rfl
  · rfl
theorem mg_mem (a b : List Pd) : ∀ q ∈ a, St.one q ∈ mg a b ∨ ∃ r, St.two q r ∈ mg a b := by
  fun_induction mg a b with
  | case1 => intro q hq; cases hq
  | case2 x xs ih =>
    intro q hq
    rcases List.mem_cons.1 hq with rfl | hq
    · exact .inl (by simp)
    · rcases ih q hq with h | ⟨r, h⟩
      · exact .inl (List.mem_cons_of_mem _ h)
      · exact .inr ⟨r, List.mem_cons_of_mem _ h⟩
  | case3 y ys ih => intro q hq; cases hq
  | case4 x xs y ys h ih =>
    intro q hq
    rcases List.mem_cons.1 hq with rfl | hq
    · exact .inl (by simp)
    · rcases ih q hq with h | ⟨r, h⟩
      · exact .inl (List.mem_cons_of_mem _ h)
      · exact .inr ⟨r, List.mem_cons_of_mem _ h⟩
  | case5 x xs y ys h h2 ih =>
    intro q hq
    rcases ih q hq with h | ⟨r, h⟩
    · exact .inl (List.mem_cons_of_mem _ h)
    · exact .inr ⟨r, List.mem_cons_of_mem _ h⟩
  | case6 x xs y ys h h2 ih =>
    intro q hq
    rcases List.mem_cons.1 hq with rfl | hq
    · exact .inr ⟨y, by simp⟩
    · rcases ih q hq with h | ⟨r, h⟩
      · exact .inl (List.mem_cons_of_mem _ h)
      · exact .inr ⟨r, List.mem_cons_of_mem _ h⟩
theorem er_own {a b : List Pd} (h : erE a b = 0) : erE a a = 0 := by
  unfold erE at h ⊢
  by_cases g : ascB (shs a) = true ∧ ascB (shs b) = true
  · rw [if_pos g, evE_zero] at h
    rw [if_pos ⟨g.1, g.1⟩, evE_zero, mg_self]
    intro s hs
    obtain ⟨q, hq, rfl⟩ := List.mem_map.1 hs
    have hc : colE q.p = 0 := by
      rcases mg_mem a b q hq with h1 | ⟨r, h1⟩
      · exact h _ h1
      · have h2 : shE q.s r.s q.p r.p = 0 := h _ h1
        unfold shE at h2
        split at h2
        · exact (bxE_parts.1 h2).1
        · cases h2
    show shE q.s q.s q.p q.p = 0
    unfold shE
    rw [if_pos rfl]
    exact bxE_z hc hc ⟨rfl, rfl⟩
  · rw [if_neg g] at h; cases h
theorem erL_len (a b : List Pd) : (erL a b).length ≤ 65536 * (a.length + b.length) := by
  have hm : ∀ a b : List Pd, (mg a b).length ≤ a.length + b.length := fun a b => by
    fun_induction mg a b <;> simp only [List.length_cons, List.length_nil] at * <;> omega
  have hl : ∀ l : List St, (evA l).length ≤ 65536 * l.length := fun l => by
    induction l with
    | nil => exact Nat.le_refl _
    | cons s l ih =>
      have := stD_len s
      show (stD s ++ evA l).length ≤ _
      rw [List.length_append, List.length_cons]
      omega
  have h1 := hm a b
  have h2 := hl (mg a b)
  unfold erL evL
  split
  · split
    · omega
    · exact Nat.zero_le _
  · exact Nat.zero_le _
end Go.Proofs
