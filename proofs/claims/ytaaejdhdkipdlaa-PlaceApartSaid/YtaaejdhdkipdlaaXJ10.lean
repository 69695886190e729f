/- Plain: no valid choice is better than the one that the exact search finds. -/
import Derived.Test.YtaaejdhdkipdlaaXJ9
import Derived.Test.YtaaejdhdkipdlaaXV16
import Derived.Laws.EntriesVeiled
import Derived.Laws.AppendOwnNone
set_option linter.unusedVariables false
set_option linter.unusedSimpArgs false
namespace Go.Proofs
open Go.RowKit Go.Proofs.Mp Go.Proofs.Uf

def okI (l : List Cand) (f z : Int) : Prop := inB l.length z = true ∧ l[z.toNat]!.f = f
theorem choice_min (l : List Cand) (f : Int) : ∀ (ch : List Int) (acc : Option Int) (j : Int), ch.foldl (chO l f) acc = some j →
    (acc = some j ∨ (j ∈ ch ∧ okI l f j)) ∧ (∀ z ∈ ch, okI l f z → j ≤ z) ∧ ∀ j0, acc = some j0 → j ≤ j0
  | [], acc, j, h => by
    have h : acc = some j := h
    exact ⟨.inl h, by simp, fun j0 h0 => by rw [h] at h0; injection h0 with h0; omega⟩
  | i :: ch, acc, j, h => by
    rw [List.foldl_cons] at h
    obtain ⟨h1, h2, h3⟩ := choice_min l f ch _ j h
    by_cases hi : okI l f i
    · rcases acc with _ | j0
      · rw [chO_none hi.1 hi.2] at h1 h3
        have h4 := h3 i rfl
        refine ⟨.inr ?_, fun z hz hk => ?_, fun j0 h0 => by cases h0⟩
        · rcases h1 with h1 | h1
          · injection h1 with h1; subst h1; exact ⟨List.mem_cons_self, hi⟩
          · exact ⟨List.mem_cons_of_mem _ h1.1, h1.2⟩
        · rcases List.mem_cons.1 hz with rfl | hz
          · exact h4
          · exact h2 z hz hk
      · rw [chO_some hi.1 hi.2] at h1 h3
        have h4 := h3 _ rfl
        refine ⟨?_, fun z hz hk => ?_, fun j1 h0 => ?_⟩
        · rcases h1 with h1 | h1
          · injection h1 with h1
            split at h1
            · subst h1; exact .inr ⟨List.mem_cons_self, hi⟩
            · subst h1; exact .inl rfl
          · exact .inr ⟨List.mem_cons_of_mem _ h1.1, h1.2⟩
        · rcases List.mem_cons.1 hz with rfl | hz
          · split at h4 <;> omega
          · exact h2 z hz hk
        · injection h0 with h0
          subst h0
          split at h4 <;> omega
    · have e : chO l f acc i = acc := by
        unfold chO
        exact if_neg hi
      rw [e] at h1 h3
      refine ⟨?_, fun z hz hk => ?_, h3⟩
      · rcases h1 with h1 | h1
        · exact .inl h1
        · exact .inr ⟨List.mem_cons_of_mem _ h1.1, h1.2⟩
      · rcases List.mem_cons.1 hz with rfl | hz
        · exact absurd hk hi
        · exact h2 z hz hk
theorem choice_none (l : List Cand) (f : Int) : ∀ (ch : List Int) (acc : Option Int), ch.foldl (chO l f) acc = none → acc = none ∧ ∀ z ∈ ch, ¬ okI l f z
  | [], acc, h => ⟨h, by simp⟩
  | i :: ch, acc, h => by
    rw [List.foldl_cons] at h
    obtain ⟨h1, h2⟩ := choice_none l f ch _ h
    by_cases hi : okI l f i
    · exfalso
      rcases acc with _ | j0
      · rw [chO_none hi.1 hi.2] at h1; cases h1
      · rw [chO_some hi.1 hi.2] at h1; cases h1
    · have e : chO l f acc i = acc := by
        unfold chO
        exact if_neg hi
      rw [e] at h1
      refine ⟨h1, fun z hz => ?_⟩
      rcases List.mem_cons.1 hz with rfl | hz
      · exact hi
      · exact h2 z hz
theorem choiceO_some_iff {l : List Cand} {c : List Int} {f j : Int} : choiceO l c f = some j ↔ (j ∈ c ∧ okI l f j) ∧ ∀ z ∈ c, okI l f z → j ≤ z := by
  constructor
  · intro h
    obtain ⟨h1, h2, _⟩ := choice_min l f c none j h
    rcases h1 with h1 | h1
    · cases h1
    · exact ⟨h1, h2⟩
  · rintro ⟨⟨h1, h2⟩, h3⟩
    rcases he : choiceO l c f with _ | j'
    · exact absurd h2 ((choice_none l f c none he).2 j h1)
    · obtain ⟨g1, g2, _⟩ := choice_min l f c none j' he
      rcases g1 with g1 | g1
      · cases g1
      · have a1 := h3 j' g1.1 g1.2
        have a2 := g2 j h1 h2
        rw [show j' = j by omega]
theorem choiceO_none_iff {l : List Cand} {c : List Int} {f : Int} : choiceO l c f = none ↔ ∀ z ∈ c, ¬ okI l f z := by
  constructor
  · intro h; exact (choice_none l f c none h).2
  · intro h
    rcases he : choiceO l c f with _ | j
    · rfl
    · have := choiceO_some_iff.1 he
      exact absurd this.1.2 (h j this.1.1)
theorem choiceO_congr {l : List Cand} {c d : List Int} {f : Int} (h : ∀ z, okI l f z → (z ∈ c ↔ z ∈ d)) : choiceO l c f = choiceO l d f := by
  rcases he : choiceO l d f with _ | j
  · rw [choiceO_none_iff] at he ⊢
    exact fun z hz hk => he z ((h z hk).1 hz) hk
  · rw [choiceO_some_iff] at he ⊢
    exact ⟨⟨(h j he.1.2).2 he.1.1, he.1.2⟩, fun z hz hk => he.2 z ((h z hk).1 hz) hk⟩
theorem lexB_congr {l : List Cand} {a a' b b' : List Int} : ∀ {F : List Int}, (∀ f ∈ F, choiceO l a f = choiceO l a' f) → (∀ f ∈ F, choiceO l b f = choiceO l b' f) → lexB l a b F = lexB l a' b' F
  | [], _, _ => rfl
  | f :: F, h1, h2 => by
    unfold lexB
    rw [h1 f List.mem_cons_self, h2 f List.mem_cons_self, lexB_congr (fun f hf => h1 f (List.mem_cons_of_mem _ hf)) (fun f hf => h2 f (List.mem_cons_of_mem _ hf))]
theorem placedN_congr {l : List Cand} {a a' : List Int} {F : List Int} (h : ∀ f ∈ F, choiceO l a f = choiceO l a' f) : placedN l F a = placedN l F a' := by
  unfold placedN
  rw [List.filter_congr (fun f hf => by rw [h f hf])]
theorem placedN_cons (l : List Cand) (f : Int) (F c : List Int) : placedN l (f :: F) c = (if (choiceO l c f).isSome = true then 1 else 0) + placedN l F c := by
  unfold placedN
  rw [List.filter_cons]
  split
  · rw [List.length_cons]; omega
  · omega
theorem stepB_self (l : List Cand) (p : Option Int) : stepB l p p = none := by
  rcases p with _ | i
  · rfl
  · unfold stepB; simp
theorem lexB_self (l : List Cand) (a : List Int) : ∀ F, lexB l a a F = false
  | [] => rfl
  | f :: F => by
    unfold lexB
    rw [stepB_self]
    exact lexB_self l a F
theorem ordL_ok {l : List Cand} {f z : Int} (h : okI l f z) : z ∈ ordL l f := by
  obtain ⟨n, rfl, hn⟩ := inB_nat h.1
  unfold ordL
  rw [ordK_mem]
  exact ⟨n, hn, rfl, by simpa using h.2⟩
theorem ok_inj {l : List Cand} {f f' z : Int} (h : okI l f z) (h' : okI l f' z) : f = f' := h.2.symm.trans h'.2

/-- what a complete choice holds behind the choice so far -/
theorem allC_mem {l : List Cand} : ∀ (fs now c : List Int), c ∈ allC l fs now → ∃ d, c = now ++ d ∧ ∀ z ∈ d, ∃ f ∈ fs, okI l f z
  | [], now, c, h => by
    unfold allC at h
    exact ⟨[], by rw [List.mem_singleton.1 h]; simp, by simp⟩
  | f :: fs, now, c, h => by
    unfold allC at h
    rcases List.mem_append.1 h with h | h
    · obtain ⟨i, hi, h⟩ := List.mem_flatMap.1 h
      obtain ⟨d, rfl, hd⟩ := allC_mem fs _ c h
      refine ⟨i :: d, by simp, fun z hz => ?_⟩
      rcases List.mem_cons.1 hz with rfl | hz
      · exact ⟨f, List.mem_cons_self, ordL_mem (List.mem_filter.1 hi).1⟩
      · obtain ⟨f', h1, h2⟩ := hd z hz
        exact ⟨f', List.mem_cons_of_mem _ h1, h2⟩
    · obtain ⟨d, rfl, hd⟩ := allC_mem fs _ c h
      refine ⟨d, rfl, fun z hz => ?_⟩
      obtain ⟨f', h1, h2⟩ := hd z hz
      exact ⟨f', List.mem_cons_of_mem _ h1, h2⟩
theorem allC_choice {l : List Cand} {fs now c : List Int} {f : Int} (h : c ∈ allC l fs now) (hf : f ∉ fs) : choiceO l c f = choiceO l now f := by
  obtain ⟨d, rfl, hd⟩ := allC_mem fs now c h
  refine choiceO_congr fun z hz => ?_
  rw [List.mem_append]
  constructor
  · rintro (h | h)
    · exact h
    · obtain ⟨f', h1, h2⟩ := hd z h
      exact absurd (ok_inj hz h2 ▸ h1) hf
  · exact .inl
def noneOf (l : List Cand) (fs now : List Int) : Prop := ∀ f ∈ fs, ∀ z ∈ now, ¬ okI l f z
theorem noneOf.tail {l : List Cand} {f : Int} {fs now : List Int} (h : noneOf l (f :: fs) now) : noneOf l fs now := fun f hf => h f (List.mem_cons_of_mem _ hf)
theorem noneOf.put {l : List Cand} {f i : Int} {fs now : List Int} (h : noneOf l (f :: fs) now) (hi : okI l f i) (hf : f ∉ fs) : noneOf l fs (now ++ [i]) := fun f' hf' z hz hk => by
  rcases List.mem_append.1 hz with hz | hz
  · exact h f' (List.mem_cons_of_mem _ hf') z hz hk
  · rw [List.mem_singleton.1 hz] at hk
    exact hf (ok_inj hi hk ▸ hf')
theorem choice_put {l : List Cand} {f i : Int} {fs now : List Int} (h : noneOf l (f :: fs) now) (hi : okI l f i) : choiceO l (now ++ [i]) f = some i := by
  rw [choiceO_some_iff]
  refine ⟨⟨by simp, hi⟩, fun z hz hk => ?_⟩
  rcases List.mem_append.1 hz with hz | hz
  · exact absurd hk (h f List.mem_cons_self z hz)
  · rw [List.mem_singleton.1 hz]; exact Int.le_refl _
theorem choice_skip {l : List Cand} {f : Int} {fs now : List Int} (h : noneOf l (f :: fs) now) : choiceO l now f = none := choiceO_none_iff.2 (h f List.mem_cons_self)
theorem lexB_eq {l : List Cand} {a b : List Int} {f : Int} {F : List Int} (h : choiceO l a f = choiceO l b f) : lexB l a b (f :: F) = lexB l a b F := by
  conv => lhs; unfold lexB
  rw [h, stepB_self]
theorem lexB_not {l : List Cand} {a b : List Int} {f : Int} {F : List Int} (h : stepB l (choiceO l a f) (choiceO l b f) = some false) : lexB l a b (f :: F) = false := by
  unfold lexB
  rw [h]
/-- what comes later is not better -/
theorem allC_lex (l : List Cand) : ∀ (fs now : List Int), fs.Nodup → noneOf l fs now → (allC l fs now).Pairwise (fun c d => lexB l d c fs = false)
  | [], now, _, _ => List.pairwise_singleton _ _
  | f :: fs, now, hnd, hno => by
    obtain ⟨hf, hnd'⟩ := List.nodup_cons.1 hnd
    unfold allC
    rw [List.pairwise_append, List.pairwise_flatMap]
    have hch : ∀ {i c}, i ∈ (ordL l f).filter (fitsB l now) → c ∈ allC l fs (now ++ [i]) → choiceO l c f = some i := fun {i c} hi hc => by
      rw [allC_choice hc hf, choice_put hno (ordL_mem (List.mem_filter.1 hi).1)]
    refine ⟨⟨fun i hi => ?_, ?_⟩, ?_, fun c hc d hd => ?_⟩
    · refine (allC_lex l fs (now ++ [i]) hnd' (hno.put (ordL_mem (List.mem_filter.1 hi).1) hf)).imp_of_mem ?_
      intro c d hc hd h
      rw [lexB_eq ((hch hi hd).trans (hch hi hc).symm)]
      exact h
    · refine ((ordK_sorted l f _).filter _).imp_of_mem ?_
      intro i j hi hj h c hc d hd
      apply lexB_not
      rw [hch hi hc, hch hj hd]
      unfold stepB
      have hne : ¬ j = i := by rintro rfl; exact srt_irrefl l _ h
      show (if j = i then none else some (costB l[j.toNat]! l[i.toNat]! j i)) = _
      rw [if_neg hne]
      congr 1
      unfold srt coI at h
      rcases h with h | ⟨h1, h2⟩
      · exact costB_gt h
      · rw [costB_eq h1.symm]
        exact decide_eq_false (by omega)
    · refine (allC_lex l fs now hnd' hno.tail).imp_of_mem ?_
      intro c d hc hd h
      rw [lexB_eq ((allC_choice hd hf).trans (allC_choice hc hf).symm)]
      exact h
    · obtain ⟨i, hi, hc⟩ := List.mem_flatMap.1 hc
      apply lexB_not
      rw [hch hi hc, allC_choice hd hf, choice_skip hno]
      rfl
theorem allC_placed (l : List Cand) : ∀ (fs now : List Int), fs.Nodup → noneOf l fs now → ∀ c ∈ allC l fs now, placedN l fs c + now.length = c.length
  | [], now, _, _, c, h => by
    unfold allC at h
    rw [List.mem_singleton.1 h]
    show 0 + _ = _
    omega
  | f :: fs, now, hnd, hno, c, h => by
    obtain ⟨hf, hnd'⟩ := List.nodup_cons.1 hnd
    unfold allC at h
    rw [placedN_cons]
    rcases List.mem_append.1 h with h | h
    · obtain ⟨i, hi, h⟩ := List.mem_flatMap.1 h
      have hok := ordL_mem (List.mem_filter.1 hi).1
      have := allC_placed l fs _ hnd' (hno.put hok hf) c h
      rw [allC_choice h hf, choice_put hno hok]
      simp at *
      omega
    · have := allC_placed l fs _ hnd' hno.tail c h
      rw [allC_choice h hf, choice_skip hno]
      simp at *
      omega
theorem allC_apart (l : List Cand) : ∀ (fs now : List Int), now.Pairwise (apartI l) → ∀ c ∈ allC l fs now, c.Pairwise (apartI l)
  | [], now, hp, c, h => by
    unfold allC at h
    rw [List.mem_singleton.1 h]; exact hp
  | f :: fs, now, hp, c, h => by
    unfold allC at h
    rcases List.mem_append.1 h with h | h
    · obtain ⟨i, hi, h⟩ := List.mem_flatMap.1 h
      refine allC_apart l fs _ ?_ c h
      rw [List.pairwise_append]
      refine ⟨hp, List.pairwise_singleton _ _, fun a ha b hb => ?_⟩
      rw [List.mem_singleton] at hb
      subst hb
      have hf := (List.mem_filter.1 hi).2
      unfold fitsB at hf
      rw [List.all_eq_true] at hf
      have h1 : hitI l b a = false := by have := hf a ha; simpa using this
      exact ⟨by rw [hitI_swap]; exact h1, h1⟩
    · exact allC_apart l fs _ hp c h
theorem allC_nodup (l : List Cand) : ∀ (fs now : List Int), fs.Nodup → noneOf l fs now → now.Nodup → ∀ c ∈ allC l fs now, c.Nodup
  | [], now, _, _, hp, c, h => by
    unfold allC at h
    rw [List.mem_singleton.1 h]; exact hp
  | f :: fs, now, hnd, hno, hp, c, h => by
    obtain ⟨hf, hnd'⟩ := List.nodup_cons.1 hnd
    unfold allC at h
    rcases List.mem_append.1 h with h | h
    · obtain ⟨i, hi, h⟩ := List.mem_flatMap.1 h
      have hok := ordL_mem (List.mem_filter.1 hi).1
      refine allC_nodup l fs _ hnd' (hno.put hok hf) ?_ c h
      rw [List.nodup_append]
      refine ⟨hp, by simp, fun a ha b hb e => ?_⟩
      rw [List.mem_singleton] at hb
      subst hb; subst e
      exact hno f List.mem_cons_self _ ha hok
    · exact allC_nodup l fs _ hnd' hno.tail hp c h
theorem pick_split : ∀ (L : List (List Int)) (o : Option (List Int)) (b : List Int), L.foldl pick o = some b →
    (o = some b ∧ ∀ c ∈ L, c.length ≤ b.length) ∨ ((∃ L1 L2, L = L1 ++ b :: L2 ∧ (∀ c ∈ L1, c.length < b.length) ∧ ∀ c ∈ L2, c.length ≤ b.length) ∧ ∀ b0, o = some b0 → b0.length < b.length)
  | [], o, b, h => .inl ⟨h, by simp⟩
  | c :: L, o, b, h => by
    rw [List.foldl_cons] at h
    rcases pick_split L _ b h with ⟨h1, h2⟩ | ⟨⟨L1, L2, rfl, h3, h4⟩, h5⟩
    · rcases o with _ | b0
      · injection h1 with h1
        subst h1
        exact .inr ⟨⟨[], L, rfl, by simp, h2⟩, fun b0 h0 => by cases h0⟩
      · by_cases hl : b0.length < c.length
        · rw [show pick (some b0) c = some c from if_pos hl] at h1
          injection h1 with h1
          subst h1
          exact .inr ⟨⟨[], L, rfl, by simp, h2⟩, fun b1 h0 => by injection h0 with h0; subst h0; exact hl⟩
        · rw [show pick (some b0) c = some b0 from if_neg hl] at h1
          injection h1 with h1
          subst h1
          refine .inl ⟨rfl, fun z hz => ?_⟩
          rcases List.mem_cons.1 hz with rfl | hz
          · omega
          · exact h2 z hz
    · have hc : c.length < b.length ∧ ∀ b0, o = some b0 → b0.length < b.length := by
        rcases o with _ | b0
        · exact ⟨h5 c rfl, fun b0 h0 => by cases h0⟩
        · by_cases hl : b0.length < c.length
          · rw [show pick (some b0) c = some c from if_pos hl] at h5
            have := h5 c rfl
            exact ⟨this, fun b1 h0 => by injection h0 with h0; subst h0; omega⟩
          · rw [show pick (some b0) c = some b0 from if_neg hl] at h5
            have := h5 b0 rfl
            exact ⟨by omega, fun b1 h0 => by injection h0 with h0; subst h0; omega⟩
      refine .inr ⟨⟨c :: L1, L2, rfl, fun z hz => ?_, h4⟩, hc.2⟩
      rcases List.mem_cons.1 hz with rfl | hz
      · exact hc.1
      · exact h3 z hz

/-- a valid choice, feature by feature -/
def cst (l : List Cand) (other fs : List Int) : List Int := fs.filterMap (choiceO l other)
theorem cst_mem (l : List Cand) (other : List Int) : ∀ (fs now : List Int), (now ++ cst l other fs).Pairwise (fun a b => hitI l b a = false) → now ++ cst l other fs ∈ allC l fs now
  | [], now, h => by
    show now ++ [] ∈ [now]
    simp
  | f :: fs, now, h => by
    unfold allC
    unfold cst at h ⊢
    rcases he : choiceO l other f with _ | i
    · rw [List.filterMap_cons_none he] at h ⊢
      exact List.mem_append_right _ (cst_mem l other fs now h)
    · rw [List.filterMap_cons_some he] at h ⊢
      refine List.mem_append_left _ (List.mem_flatMap.2 ⟨i, List.mem_filter.2 ⟨ordL_ok (choiceO_in he), ?_⟩, ?_⟩)
      · unfold fitsB
        rw [List.all_eq_true]
        intro j hj
        have := (List.pairwise_append.1 h).2.2 j hj i List.mem_cons_self
        simp [this]
      · have e : now ++ i :: List.filterMap (choiceO l other) fs = (now ++ [i]) ++ cst l other fs := by unfold cst; simp
        rw [e] at h
        have h2 := cst_mem l other fs _ h
        rw [← e] at h2
        exact h2
theorem cst_choice (l : List Cand) (other : List Int) {F : List Int} {f : Int} (hf : f ∈ F) : choiceO l (cst l other F) f = choiceO l other f := by
  rcases he : choiceO l other f with _ | j
  · rw [choiceO_none_iff]
    intro z hz hk
    obtain ⟨f', hf', h⟩ := List.mem_filterMap.1 hz
    have := ok_inj (choiceO_in h) hk
    subst this
    rw [he] at h; cases h
  · rw [choiceO_some_iff]
    refine ⟨⟨List.mem_filterMap.2 ⟨f, hf, he⟩, choiceO_in he⟩, fun z hz hk => ?_⟩
    obtain ⟨f', hf', h⟩ := List.mem_filterMap.1 hz
    have := ok_inj (choiceO_in h) hk
    subst this
    rw [he] at h
    injection h with h
    omega
theorem free_ne {l : List Cand} {ch : List Int} (h : freeP l ch) {x y : Int} (hx : x ∈ ch) (hy : y ∈ ch) (hne : x ≠ y) : hitI l x y = false := by
  obtain ⟨n, hn, rfl⟩ := List.mem_iff_getElem.1 hx
  obtain ⟨m, hm, rfl⟩ := List.mem_iff_getElem.1 hy
  rcases Nat.lt_trichotomy n m with h1 | h1 | h1
  · have := h m hm n h1
    rw [getElem!_pos _ m hm, getElem!_pos _ n hn] at this
    rw [hitI_swap]; exact this
  · subst h1; exact absurd rfl hne
  · have := h n hn m h1
    rw [getElem!_pos _ m hm, getElem!_pos _ n hn] at this
    exact this
theorem valid_free {l : List Cand} {ch : List Int} (h : validB l ch = true) : freeP l ch := by
  unfold validB at h
  simp only [Bool.and_eq_true, decide_eq_true_iff] at h
  exact h.2
theorem cst_in (l : List Cand) (other : List Int) {F : List Int} (hF : F.Nodup) (hv : validB l other = true) : cst l other F ∈ allC l F [] := by
  have := cst_mem l other F []
  rw [List.nil_append] at this
  refine this ?_
  unfold cst
  rw [List.pairwise_filterMap]
  refine hF.imp ?_
  intro f f' hne x hx y hy
  have h1 := choiceO_some_iff.1 hx
  have h2 := choiceO_some_iff.1 hy
  refine free_ne (valid_free hv) h2.1.1 h1.1.1 ?_
  rintro rfl
  exact hne (ok_inj h1.1.2 h2.1.2)
theorem noneOf_nil (l : List Cand) (fs : List Int) : noneOf l fs [] := fun f _ z hz => by simp at hz
/-- b is the first of the longest complete choices -/
def Found (l : List Cand) (F b : List Int) : Prop := (allC l F []).foldl pick none = some b
theorem Found.mem {l : List Cand} {F b : List Int} (h : Found l F b) : b ∈ allC l F [] := by
  rcases pick_split _ _ _ h with ⟨h1, _⟩ | ⟨⟨L1, L2, e, _⟩, _⟩
  · cases h1
  · rw [e]; simp
theorem Found.placed {l : List Cand} {F b : List Int} (h : Found l F b) (hF : F.Nodup) : placedN l F b = b.length := by
  have := allC_placed l F [] hF (noneOf_nil l F) b h.mem
  simpa using this
theorem Found.best {l : List Cand} {F b : List Int} (h : Found l F b) (hF : F.Nodup) {other : List Int} (hv : validB l other = true) :
    placedN l F other ≤ placedN l F b ∧ (placedN l F other = placedN l F b → lexB l other b F = false) := by
  have hc := cst_in l other hF hv
  have hp : placedN l F (cst l other F) = placedN l F other := placedN_congr fun f hf => cst_choice l other hf
  have hl := allC_placed l F [] hF (noneOf_nil l F) _ hc
  have hb := h.placed hF
  have hlx := allC_lex l F [] hF (noneOf_nil l F)
  have e1 : lexB l other b F = lexB l (cst l other F) b F := lexB_congr (fun f hf => (cst_choice l other hf).symm) fun _ _ => rfl
  simp only [List.length_nil, Nat.add_zero] at hl
  rcases pick_split _ _ _ h with ⟨h1, _⟩ | ⟨⟨L1, L2, e, h1, h2⟩, _⟩
  · cases h1
  · rw [e] at hc hlx
    rw [e1]
    rcases List.mem_append.1 hc with hc | hc
    · have := h1 _ hc
      exact ⟨by omega, fun h => by omega⟩
    · rcases List.mem_cons.1 hc with hc | hc
      · rw [hc] at hl hp ⊢
        exact ⟨by omega, fun _ => lexB_self l b F⟩
      · have := h2 _ hc
        refine ⟨by omega, fun _ => ?_⟩
        exact (List.pairwise_cons.1 (List.pairwise_append.1 hlx).2.1).1 _ hc
theorem srch_found {l : List Cand} {lim : Nat} {F : List Int} {y : XS} (h : srch l lim F [] ⟨0, none⟩ = some y) : ∃ b, y.best = some b ∧ Found l F b := by
  have h1 := (srch_pick l lim F [] ⟨0, none⟩ y rfl h).1
  have hne : (allC l F []).foldl pick none ≠ none := by
    have key : ∀ (L : List (List Int)) (o : Option (List Int)), (o ≠ none ∨ L ≠ []) → L.foldl pick o ≠ none := by
      intro L
      induction L with
      | nil => intro o h; simpa using h
      | cons c L ih =>
        intro o _
        rw [List.foldl_cons]
        refine ih _ (.inl ?_)
        unfold pick
        split
        · simp
        · split <;> simp
    refine key _ _ (.inr ?_)
    clear h1 h
    generalize ([] : List Int) = now
    induction F with
    | nil => unfold allC; simp
    | cons f fs ih =>
      unfold allC
      intro e
      exact ih (List.append_eq_nil_iff.1 e).2
  rcases he : (allC l F []).foldl pick none with _ | b
  · exact absurd he hne
  · exact ⟨b, h1.trans he, he⟩
theorem choice_set (l : List Cand) (b : List Int) (f : Int) : choiceO l (setL b) f = choiceO l b f := choiceO_congr fun z _ => setL_mem b z
theorem Found.valid {l : List Cand} {F b : List Int} (h : Found l F b) (hF : F.Nodup) : validB l (setL b) = true := by
  have hm := h.mem
  have hnd := allC_nodup l F [] hF (noneOf_nil l F) List.nodup_nil b hm
  have hap := allC_apart l F [] List.Pairwise.nil b hm
  obtain ⟨d, e, hd⟩ := allC_mem F [] b hm
  rw [List.nil_append] at e
  subst e
  have hp : (setL b).Pairwise (apartI l) := by
    rw [setL_nodup hnd]
    exact (List.mergeSort_perm _ _).symm.pairwise hap (fun {a b} h => ⟨h.2, h.1⟩)
  refine validB_yes ((ascB_iff _).2 (setL_asc _)) (fun j hj => ?_) ?_
  · obtain ⟨f, _, h⟩ := hd _ ((setL_mem b _).1 (getMem hj))
    exact h.1
  · intro n hn m hm
    have := (List.pairwise_iff_getElem.1 hp) m n (by omega) hn hm
    rw [getElem!_pos _ n hn, getElem!_pos _ m (by omega)]
    exact this.2
theorem Found.better {l : List Cand} {order b : List Int} (h : Found l (distL order) b) {other : List Int} (hv : validB l other = true) : betterB l order other (setL b) = false := by
  obtain ⟨h1, h2⟩ := h.best (distL_nodup order) hv
  have e1 : placedN l (distL order) (setL b) = placedN l (distL order) b := placedN_congr fun f _ => choice_set l b f
  have e2 : lexB l other (setL b) (distL order) = lexB l other b (distL order) := lexB_congr (fun _ _ => rfl) fun f _ => choice_set l b f
  unfold betterB
  rw [e1, e2]
  split
  · exact decide_eq_false (by omega)
  · rename_i hn
    exact h2 (Decidable.not_not.1 hn)
/-- better is asymmetric -/
theorem costB_asym {x y : Cand} {i j : Int} (h : costB x y i j = true) : costB y x j i = false := by
  unfold costB at *
  simp only [Bool.or_eq_true, Bool.and_eq_true, decide_eq_true_iff] at h
  rw [decide_eq_false (by omega : ¬ y.co < x.co)]
  rcases h with h | ⟨h1, h2⟩
  · rw [decide_eq_false (by omega : ¬ y.co = x.co)]; rfl
  · rw [decide_eq_false (by omega : ¬ j < i)]; simp
theorem lexB_asym (l : List Cand) (a b : List Int) : ∀ F, lexB l a b F = true → lexB l b a F = false
  | [], h => by cases h
  | f :: F, h => by
    unfold lexB at h ⊢
    rcases hp : choiceO l a f with _ | i
    · rcases hq : choiceO l b f with _ | j
      · rw [hp, hq] at h
        exact lexB_asym l a b F h
      · rw [hp, hq] at h
        cases h
    · rcases hq : choiceO l b f with _ | j
      · rfl
      · rw [hp, hq] at h
        by_cases he : i = j
        · subst he
          rw [stepB_self] at h ⊢
          exact lexB_asym l a b F h
        · unfold stepB at h ⊢
          simp only [if_neg he] at h
          simp only [if_neg (Ne.symm he)]
          exact costB_asym h
theorem betterB_self (l : List Cand) (order a : List Int) : betterB l order a a = false := by
  unfold betterB
  rw [if_neg (by simp)]
  exact lexB_self l a _
theorem betterB_asym {l : List Cand} {order a b : List Int} (h : betterB l order a b = true) : betterB l order b a = false := by
  unfold betterB at *
  split at h
  · rename_i hne
    rw [if_pos (Ne.symm hne)]
    have := of_decide_eq_true h
    exact decide_eq_false (by omega)
  · rename_i he
    rw [if_neg (fun h => he h.symm)]
    exact lexB_asym l a b _ h
end Go.Proofs
/- The program's Exact. -/
set_option linter.unusedVariables false
set_option linter.unusedSimpArgs false
namespace Go.Proofs
open Go.RowKit Go.Proofs.Mp Go.Proofs.Uf Go.Maps

def limN (steps : Int) : Nat := (min (max steps 0) 100000).toNat
theorem limN_le (steps : Int) : limN steps ≤ 100000 := by unfold limN; omega
theorem limN_cast (steps : Int) : ((limN steps : Nat) : Int) = min (max steps 0) 100000 := by unfold limN; omega
def exactL (l : List Cand) (order : List Int) (steps : Int) : Option (List Int) := (srch l (limN steps) (distL order) [] ⟨0, none⟩).map fun y => setL (y.best.getD [])
def errN (o : Option (List Int)) : Int := match o with
  | none => 24
  | some _ => 0
def ExPost (w : World) (o : Option (List Int)) (e : Ending) (w' : World) : Prop := ∃ v, e = .returned (.tuple #[v, .int .i64 (errN o)]) ∧ SlI w' v (o.getD []) ∧ Below w.heap.size w w'
/-- a box from B0 on -/
def BxF (B0 : Nat) (W : World) (p v : Value) (t : TypeId) : Prop := ∃ b, p = .pointer (some ⟨b, 0, none⟩) ∧ B0 ≤ b ∧ One1 W b v t
theorem BxF.below {B0 : Nat} {W W' : World} {p v : Value} {t : TypeId} (h : BxF B0 W p v t) (hb : Below W.heap.size W W') : BxF B0 W' p v t := by
  obtain ⟨b, h1, h2, h3⟩ := h
  exact ⟨b, h1, h2, h3.below hb⟩
theorem BxF.alloc {B0 : Nat} {W : World} {p v : Value} {t : TypeId} (h : BxF B0 W p v t) (o : Obj) : BxF B0 (W.alloc o) p v t := h.below (bw1 _ _)
theorem BxF.new {B0 : Nat} (W : World) (h : B0 ≤ W.heap.size) (v : Value) (t : TypeId) : BxF B0 (W.alloc (.cells #[v] t)) (.pointer (some ⟨W.heap.size, 0, none⟩)) v t := ⟨_, rfl, h, heap_alloc_last _ _⟩
def MpF (B0 : Nat) (g : Int → List Int) (W : World) (v : Value) : Prop := ∃ B base N, v = .map (some B) ∧ GP W B base N g ∧ N ≤ 1000 ∧ B0 ≤ B
theorem MpF.below {B0 : Nat} {g : Int → List Int} {W W' : World} {v : Value} (h : MpF B0 g W v) (hb : Below W.heap.size W W') : MpF B0 g W' v := by
  obtain ⟨B, base, N, h1, h2, h3⟩ := h
  exact ⟨B, base, N, h1, h2.below hb, h3⟩
theorem MpF.alloc {B0 : Nat} {g : Int → List Int} {W : World} {v : Value} (h : MpF B0 g W v) (o : Obj) : MpF B0 g (W.alloc o) v := h.below (bw1 _ _)
theorem own_box {W : World} {lo b : Nat} {v u : Value} {t : TypeId} {xs : List Int} (h : OwnI 3 W lo v xs) (hb : One1 W b u t) (ht : t ≠ 3) : v.ownBlock = none ∨ v.ownBlock ≠ some b := by
  rcases h.2 with ⟨rfl, _⟩ | ⟨g, cap, cur, rfl, _, hg, _⟩
  · exact .inl rfl
  · right
    intro e
    have e : g = b := by simpa [Value.ownBlock] using e
    subst e
    have := hb.symm.trans hg
    injection this with this
    injection this with _ this
    exact ht this
theorem ownI_set {W : World} {lo b : Nat} {v u z : Value} {t : TypeId} {xs : List Int} (h : OwnI 3 W lo v xs) (hb : One1 W b u t) (ht : t ≠ 3) : OwnI 3 (W.setCell ⟨b, 0, none⟩ z) lo v xs :=
  World.ownsRow.kept h (grown_set W b 0 z) (own_box h hb ht)
theorem GP.set {W : World} {B base N b : Nat} {g : Int → List Int} {u z : Value} {t : TypeId} (h : GP W B base N g) (hb : One1 W b u t) (ht : t ≠ 3) : GP (W.setCell ⟨b, 0, none⟩ z) B base N g := by
  obtain ⟨V, h1, h2, h3, h4⟩ := h
  have hg := grown_set W b 0 z
  refine ⟨V, h1.kept hg ?_, h2, Nat.le_trans h3 hg.size, h4.grown hg fun f hf => own_box (h4.1 f hf) hb ht⟩
  intro e
  have e : B = b := by simpa using e
  subst e
  obtain ⟨D, ⟨es, clock, hh, _⟩, _⟩ := h1
  have := hb.symm.trans hh
  injection this with this
  cases this
theorem four (W : World) (x1 x2 x3 x4 : Value) (t1 t2 t3 t4 : TypeId) :
    Below W.heap.size W ((((W.alloc (.cells #[x1] t1)).alloc (.cells #[x2] t2)).alloc (.cells #[x3] t3)).alloc (.cells #[x4] t4)) ∧
    ((((W.alloc (.cells #[x1] t1)).alloc (.cells #[x2] t2)).alloc (.cells #[x3] t3)).alloc (.cells #[x4] t4)).heap.size = W.heap.size + 4 ∧
    One1 ((((W.alloc (.cells #[x1] t1)).alloc (.cells #[x2] t2)).alloc (.cells #[x3] t3)).alloc (.cells #[x4] t4)) W.heap.size x1 t1 ∧
    One1 ((((W.alloc (.cells #[x1] t1)).alloc (.cells #[x2] t2)).alloc (.cells #[x3] t3)).alloc (.cells #[x4] t4)) (W.heap.size + 1) x2 t2 ∧
    One1 ((((W.alloc (.cells #[x1] t1)).alloc (.cells #[x2] t2)).alloc (.cells #[x3] t3)).alloc (.cells #[x4] t4)) (W.heap.size + 1 + 1) x3 t3 ∧
    One1 ((((W.alloc (.cells #[x1] t1)).alloc (.cells #[x2] t2)).alloc (.cells #[x3] t3)).alloc (.cells #[x4] t4)) (W.heap.size + 1 + 1 + 1) x4 t4 := by
  have e1 := heap_alloc_last W (.cells #[x1] t1)
  have e2 := heap_alloc_last (W.alloc (.cells #[x1] t1)) (.cells #[x2] t2)
  have e3 := heap_alloc_last ((W.alloc (.cells #[x1] t1)).alloc (.cells #[x2] t2)) (.cells #[x3] t3)
  have e4 := heap_alloc_last (((W.alloc (.cells #[x1] t1)).alloc (.cells #[x2] t2)).alloc (.cells #[x3] t3)) (.cells #[x4] t4)
  have b1 := bw1 W (.cells #[x1] t1)
  have b2 := bw1 (W.alloc (.cells #[x1] t1)) (.cells #[x2] t2)
  have b3 := bw1 ((W.alloc (.cells #[x1] t1)).alloc (.cells #[x2] t2)) (.cells #[x3] t3)
  have b4 := bw1 (((W.alloc (.cells #[x1] t1)).alloc (.cells #[x2] t2)).alloc (.cells #[x3] t3)) (.cells #[x4] t4)
  have s1 : (W.alloc (.cells #[x1] t1)).heap.size = W.heap.size + 1 := by simp
  have s2 : ((W.alloc (.cells #[x1] t1)).alloc (.cells #[x2] t2)).heap.size = W.heap.size + 1 + 1 := by simp
  have s3 : (((W.alloc (.cells #[x1] t1)).alloc (.cells #[x2] t2)).alloc (.cells #[x3] t3)).heap.size = W.heap.size + 1 + 1 + 1 := by simp
  have s4 : ((((W.alloc (.cells #[x1] t1)).alloc (.cells #[x2] t2)).alloc (.cells #[x3] t3)).alloc (.cells #[x4] t4)).heap.size = W.heap.size + 4 := by simp
  rw [s1] at e2; rw [s2] at e3; rw [s3] at e4
  have k12 := b1.trans (b2.mono b1.size)
  have k13 := k12.trans (b3.mono k12.size)
  have k14 := k13.trans (b4.mono k13.size)
  have k24 := b2.trans ((b3.trans (b4.mono b3.size)).mono b2.size)
  have k34 := b3.trans (b4.mono b3.size)
  refine ⟨k14, s4, ?_, ?_, ?_, e4⟩
  · exact (k24.block _ (by rw [s1]; omega)).trans e1
  · exact (k34.block _ (by rw [s2]; omega)).trans e2
  · exact (b4.block _ (by rw [s3]; omega)).trans e3
theorem held_set {w : World} {base p n c : Nat} {A : Option Addr} {u : Value} {xs : List Int} (h : HeldI w base (.slice A n c) xs) (hp : p < base) : RdI (w.setCell ⟨p, 0, none⟩ u) A xs := by
  have hr := (held_rd h).2
  rcases h with ⟨_, _, _, rfl⟩ | ⟨g, c', he, hb, hg, _, _⟩
  · exact Rd.nil _
  · injection he with e1
    subst e1
    rcases hr with rfl | ⟨b, off, e, hlt, hc⟩
    · exact Rd.nil _
    · have e2 := e
      injection e2 with e2
      injection e2 with e2
      subst e2
      refine .inr ⟨g, off, e, by simpa [World.setCell] using hlt, fun j hj i z hz => ?_⟩
      exact (World.cell?_of_block (Below.heap_setCell _ _ _ _ (by show g ≠ p; omega))).trans (hc j hj i z hz)
theorem Kp.cell0 {w0 W : World} {base : Nat} {D : Nat → Prop} (h : Kp w0 base D W) {b : Nat} (h1 : b < base) (h2 : ¬ D b) : W.cell? ⟨b, 0, none⟩ = w0.cell? ⟨b, 0, none⟩ := h.cell h1 h2
theorem One1.ne {W : World} {b b' : Nat} {v v' : Value} {t t' : TypeId} (h : One1 W b v t) (h' : One1 W b' v' t') (ht : t ≠ t') : b ≠ b' := by
  rintro rfl
  have := h.symm.trans h'
  injection this with this
  injection this with _ this
  exact ht this
set_option maxRecDepth 100000 in
set_option maxHeartbeats 4000000 in
theorem place_exact (u v : Value) (l : List Cand) (order : List Int) (steps : Int) (w : World) (hl : l.length ≤ 1000) (ho : order.length ≤ 1000) (hwf : wfs (feats l)) (hwo : wfs order) (hu : SlC w u l) (hv : SlI w v order) :
    Calls Try.prog 20 #[u, v, .int .i64 steps] w (ExPost w (exactL l order steps)) := by
  have hdl := distL_len order
  have HNF := Lib.hid (distL_nodup order)
  have HWF : Hid (wfs (distL order)) := Lib.hid (fun z hz => hwo z (distL_sub order z hz))
  have CF0 := Lib.hid (fun (W : World) (hb' : Below w.heap.size w W) => place_distinct v order W ho hwo (hv.below hb'))
  have CO0 := Lib.hid (fun (W : World) (hb' : Below w.heap.size w W) => place_ordered u l W hl hwf (hu.below hb'))
  have hlc := limN_cast steps
  have HLE := Lib.hid (limN_le steps)
  have HEX : Hid (exactL l order steps = (srch l (limN steps) (distL order) [] ⟨0, none⟩).map fun y => setL (y.best.getD [])) := Lib.hid rfl
  generalize exactL l order steps = ex at *
  generalize distL order = F at *
  obtain ⟨lim, hlim⟩ : ∃ lim, limN steps = lim := ⟨_, rfl⟩
  rw [hlim] at HLE HEX hlc
  obtain ⟨AL, cL, rfl, hcL, hR⟩ := hu
  have HR := Lib.hid hR
  have HLC := Lib.hid hlc
  have hmf : ∀ (fn : Fn) (first cap : Array Value) (w : World), (Instr.makeFunc fn first cap).run Try.prog w = .ok (.func fn first cap) w := fun _ _ _ _ => rfl
  clear hv hR hwf hwo hlim hlc
  go_enter Try.func20, Try.ntmps20
  go_wp2_with fail
  obtain ⟨w1, hw1⟩ : ∃ w1, w1 = ((w.alloc (Obj.cells #[Value.slice AL l.length cL] 22)).alloc (Obj.cells #[Value.slice none 0 0] 23)).alloc (Obj.cells #[Value.int IntKind.i64 (min (max steps 0) 100000)] 3) := ⟨_, rfl⟩
  have hb1 : Below w.heap.size w w1 := by rw [hw1]; exact (((Below.refl _ _).alloc (Nat.le_refl _) _).alloc (by simp) _).alloc (by simp; omega) _
  have hs1 : w1.heap.size = w.heap.size + 3 := by rw [hw1]; simp
  have hL1 : One1 w1 w.heap.size (.slice AL l.length cL) 22 := by
    have := heap_alloc_last w (Obj.cells #[Value.slice AL l.length cL] 22)
    rw [hw1]
    show ((((w.alloc _).alloc _).alloc _)).heap[w.heap.size]? = _
    rw [Below.heap_alloc _ _ _ (by simp; omega), Below.heap_alloc _ _ _ (by simp)]
    exact this
  have hC1 : One1 w1 (w.heap.size + 1) (.slice none 0 0) 23 := by
    have := heap_alloc_last (w.alloc (Obj.cells #[Value.slice AL l.length cL] 22)) (Obj.cells #[Value.slice none 0 0] 23)
    rw [hw1]
    show ((((w.alloc _).alloc _).alloc _)).heap[w.heap.size + 1]? = _
    rw [Below.heap_alloc _ _ _ (by simp)]
    simpa using this
  have hT1 : One1 w1 (w.heap.size + 1 + 1) (.int .i64 (lim : Int)) 3 := by
    have := heap_alloc_last ((w.alloc (Obj.cells #[Value.slice AL l.length cL] 22)).alloc (Obj.cells #[Value.slice none 0 0] 23)) (Obj.cells #[Value.int IntKind.i64 (min (max steps 0) 100000)] 3)
    rw [hw1, HLC.out]
    unfold One1
    simpa using this
  rw [← hw1]
  clear hw1
  have CF := Lib.hid (fun (W : World) (hW : Below w1.heap.size w1 W) => (CF0.out W (hb1.trans (hW.mono hb1.size))).mono (fun e w' ⟨u, h1, h2, h3⟩ => (⟨u, h1, Own.mono h2 hW.size, h3⟩ : ∃ u, e = Ending.returned u ∧ OwnI 3 w' w1.heap.size u F ∧ Below W.heap.size W w')))
  obtain ⟨g0, hg0⟩ : ∃ g0, ordL l = g0 := ⟨_, rfl⟩
  rw [hg0] at CO0
  have HG0 := Lib.hid hg0
  clear hg0
  have CO := Lib.hid (fun (W : World) (hW : Below w1.heap.size w1 W) => (CO0.out W (hb1.trans (hW.mono hb1.size))).mono (fun e w' ⟨B, base, N, h1, h2, h3, h4, h5⟩ => (⟨_, h1, ⟨B, base, N, rfl, h2, h3, Nat.le_trans hW.size h4⟩, h5⟩ : ∃ v, e = Ending.returned v ∧ MpF w1.heap.size g0 w' v ∧ Below W.heap.size W w')))
  have HcL := Lib.hid (fun (W : World) (hW : Below w1.heap.size w1 W) => (cell_of_one (hL1.below hW)))
  have hS1 : (fun W : World => Below w1.heap.size w1 W) w1.drew := (Below.refl _ _).drew
  clear CF0 CO0
  refine wp_region_held_drew (S := fun W : World => Below w1.heap.size w1 W) (by kernel_rfl) hS1 (fun hHeld => ?_)
  clear hHeld
  generalize w1.drew = wzra at *
  refine wpAnyH_take (i := 0) (oi := ⟨some 18, _, _, _, _, _⟩) (v := ?vra1) rfl (by kernel_rfl) (by kernel_rfl) (by kernel_rfl) (fun _ _ _ h => h) (Or.inl ⟨by kernel_rfl, ?hyra1⟩) (by assumption) ?restra1
  case hyra1 => (intro W hSw; (try dsimp only at hSw); go_simp; try with_reducible rfl)
  case' restra1 => try simp only [Act.put, List.setIfInBounds_toArray, List.set_cons_zero, List.set_cons_succ]
  refine wpAnyH_take (i := 2) (oi := ⟨some 20, _, _, _, _, _⟩) (v := ?vra2) rfl (by kernel_rfl) (by kernel_rfl) (by kernel_rfl) (fun _ _ _ h => h) (Or.inl ⟨by kernel_rfl, ?hyra2⟩) (by assumption) ?restra2
  case hyra2 => (intro W hSw; have gq := HcL.out W hSw; (try dsimp only at hSw); go_simp; try with_reducible rfl)
  case' restra2 => try simp only [Act.put, List.setIfInBounds_toArray, List.set_cons_zero, List.set_cons_succ]
  refine' wpAnyH_share (fun H f l (act : Value → Value → Value → Value → Act) => ∀ (vF : Value) (vM : Value) (v9 : Value) (v10 : Value) (WX : World), OwnI 3 WX w1.heap.size vF F → MpF w1.heap.size g0 WX vM → BxF w1.heap.size WX v9 (.slice none 0 0) 23 → BxF w1.heap.size WX v10 (.map none) 57 → (fun W : World => Below w1.heap.size w1 W) WX → H f l (act vF vM v9 v10) WX) (fun tailra9 => ?mtailra9) ?ttailra9
  case mtailra9 =>
    refine' wpAnyH_share (fun H f l (act : Value → Value → Value → Act) => ∀ (vF : Value) (v9 : Value) (v10 : Value) (WX : World), OwnI 3 WX w1.heap.size vF F → BxF w1.heap.size WX v9 (.slice none 0 0) 23 → BxF w1.heap.size WX v10 (.map none) 57 → (fun W : World => Below w1.heap.size w1 W) WX → H f l (act vF v9 v10) WX) (fun tailra8 => ?mtailra8) ?ttailra8
    case mtailra8 =>
      refine' wpAnyH_share (fun H f l (act : Value → Value → Value → Act) => ∀ (vF : Value) (vM : Value) (v10 : Value) (WX : World), OwnI 3 WX w1.heap.size vF F → MpF w1.heap.size g0 WX vM → BxF w1.heap.size WX v10 (.map none) 57 → (fun W : World => Below w1.heap.size w1 W) WX → H f l (act vF vM v10) WX) (fun tailra7 => ?mtailra7) ?ttailra7
      case mtailra7 =>
        refine' wpAnyH_share (fun H f l (act : Value → Value → Value → Act) => ∀ (vF : Value) (vM : Value) (v9 : Value) (WX : World), OwnI 3 WX w1.heap.size vF F → MpF w1.heap.size g0 WX vM → BxF w1.heap.size WX v9 (.slice none 0 0) 23 → (fun W : World => Below w1.heap.size w1 W) WX → H f l (act vF vM v9) WX) (fun tailra6 => ?mtailra6) ?ttailra6
        case mtailra6 =>
          refine' wpAnyH_share (fun H f l (act : Value → Value → Act) => ∀ (v9 : Value) (v10 : Value) (WX : World), BxF w1.heap.size WX v9 (.slice none 0 0) 23 → BxF w1.heap.size WX v10 (.map none) 57 → (fun W : World => Below w1.heap.size w1 W) WX → H f l (act v9 v10) WX) (fun tailra5 => ?mtailra5) ?ttailra5
          case mtailra5 =>
            refine' wpAnyH_share (fun H f l (act : Value → Value → Act) => ∀ (vF : Value) (v10 : Value) (WX : World), OwnI 3 WX w1.heap.size vF F → BxF w1.heap.size WX v10 (.map none) 57 → (fun W : World => Below w1.heap.size w1 W) WX → H f l (act vF v10) WX) (fun tailra4 => ?mtailra4) ?ttailra4
            case mtailra4 =>
              refine' wpAnyH_share (fun H f l (act : Value → Value → Act) => ∀ (vF : Value) (v9 : Value) (WX : World), OwnI 3 WX w1.heap.size vF F → BxF w1.heap.size WX v9 (.slice none 0 0) 23 → (fun W : World => Below w1.heap.size w1 W) WX → H f l (act vF v9) WX) (fun tailra3 => ?mtailra3) ?ttailra3
              case mtailra3 =>
                refine wpAnyH_ready (rs := [1, 4, 5]) (by kernel_rfl) (by simp) ?_
                refine AllReadyH.cons (o := ⟨some 19, _, _, _, _, _⟩) rfl (fun K hK => ?_) ?_
                · skip
                  go_simp
                  go_at_call 32
                  refine (CF.out wzra hS1).mono ?_
                  rintro e Wra1 ⟨vF, rfl, hF, hbWra1⟩
                  have hSWra1 := hS1.trans (hbWra1.mono hS1.size)
                  try clear hS1
                  clear hbWra1
                  go_wp2_with fail
                  refine hK.out _ _ hSWra1 (fun hHeld => ?_)
                  clear hK hHeld K
                  try simp only [Act.put, List.setIfInBounds_toArray, List.set_cons_zero, List.set_cons_succ]
                  refine wpAnyH_ready (rs := [3, 4, 5]) (by kernel_rfl) (by simp) ?_
                  refine AllReadyH.cons (o := ⟨some 21, _, _, _, _, _⟩) rfl (fun K hK => ?_) ?_
                  · skip
                    go_simp
                    go_at_call 36
                    refine (CO.out Wra1 hSWra1).mono ?_
                    rintro e Wra2 ⟨vM, rfl, hP, hbWra2⟩
                    replace hF := hF.below hbWra2
                    have hSWra2 := hSWra1.trans (hbWra2.mono hSWra1.size)
                    try clear hSWra1
                    clear hbWra2
                    go_wp2_with fail
                    refine hK.out _ _ hSWra2 (fun hHeld => ?_)
                    clear hK hHeld K
                    try simp only [Act.put, List.setIfInBounds_toArray, List.set_cons_zero, List.set_cons_succ]
                    refine wpAnyH_ready (rs := [4, 5]) (by kernel_rfl) (by simp) ?_
                    refine AllReadyH.cons (o := ⟨some 9, _, _, _, _, _⟩) rfl (fun K hK => ?_) ?_
                    · skip
                      go_simp
                      replace hF := hF.alloc (.cells #[.slice none 0 0] 23)
                      replace hP := hP.alloc (.cells #[.slice none 0 0] 23)
                      have h9 := BxF.new Wra2 hSWra2.size (.slice none 0 0) 23
                      have hSWra3 := hSWra2.alloc hSWra2.size (.cells #[.slice none 0 0] 23)
                      refine hK.out _ _ hSWra3 (fun hHeld => ?_)
                      clear hK hHeld K
                      try clear hSWra2
                      try simp only [Act.put, List.setIfInBounds_toArray, List.set_cons_zero, List.set_cons_succ]
                      generalize (Wra2.alloc (.cells #[.slice none 0 0] 23)) = Wra3 at hF hP h9 hSWra3 ⊢
                      generalize Value.pointer (some ⟨Wra2.heap.size, 0, none⟩) = v9 at h9 ⊢
                      exact wpAnyH_cast rfl rfl (tailra6 vF vM v9 Wra3 hF hP h9 hSWra3)
                    refine AllReadyH.cons (o := ⟨some 10, _, _, _, _, _⟩) rfl (fun K hK => ?_) AllReadyH.nil
                    go_simp
                    replace hF := hF.alloc (.cells #[.map none] 57)
                    replace hP := hP.alloc (.cells #[.map none] 57)
                    have h10 := BxF.new Wra2 hSWra2.size (.map none) 57
                    have hSWra4 := hSWra2.alloc hSWra2.size (.cells #[.map none] 57)
                    refine hK.out _ _ hSWra4 (fun hHeld => ?_)
                    clear hK hHeld K
                    try clear hSWra2
                    try simp only [Act.put, List.setIfInBounds_toArray, List.set_cons_zero, List.set_cons_succ]
                    generalize (Wra2.alloc (.cells #[.map none] 57)) = Wra4 at hF hP h10 hSWra4 ⊢
                    generalize Value.pointer (some ⟨Wra2.heap.size, 0, none⟩) = v10 at h10 ⊢
                    exact wpAnyH_cast rfl rfl (tailra7 vF vM v10 Wra4 hF hP h10 hSWra4)
                  refine AllReadyH.cons (o := ⟨some 9, _, _, _, _, _⟩) rfl (fun K hK => ?_) ?_
                  · skip
                    go_simp
                    replace hF := hF.alloc (.cells #[.slice none 0 0] 23)
                    have h9 := BxF.new Wra1 hSWra1.size (.slice none 0 0) 23
                    have hSWra5 := hSWra1.alloc hSWra1.size (.cells #[.slice none 0 0] 23)
                    refine hK.out _ _ hSWra5 (fun hHeld => ?_)
                    clear hK hHeld K
                    try clear hSWra1
                    try simp only [Act.put, List.setIfInBounds_toArray, List.set_cons_zero, List.set_cons_succ]
                    generalize (Wra1.alloc (.cells #[.slice none 0 0] 23)) = Wra5 at hF h9 hSWra5 ⊢
                    generalize Value.pointer (some ⟨Wra1.heap.size, 0, none⟩) = v9 at h9 ⊢
                    exact wpAnyH_cast rfl rfl (tailra3 vF v9 Wra5 hF h9 hSWra5)
                  refine AllReadyH.cons (o := ⟨some 10, _, _, _, _, _⟩) rfl (fun K hK => ?_) AllReadyH.nil
                  go_simp
                  replace hF := hF.alloc (.cells #[.map none] 57)
                  have h10 := BxF.new Wra1 hSWra1.size (.map none) 57
                  have hSWra6 := hSWra1.alloc hSWra1.size (.cells #[.map none] 57)
                  refine hK.out _ _ hSWra6 (fun hHeld => ?_)
                  clear hK hHeld K
                  try clear hSWra1
                  try simp only [Act.put, List.setIfInBounds_toArray, List.set_cons_zero, List.set_cons_succ]
                  generalize (Wra1.alloc (.cells #[.map none] 57)) = Wra6 at hF h10 hSWra6 ⊢
                  generalize Value.pointer (some ⟨Wra1.heap.size, 0, none⟩) = v10 at h10 ⊢
                  exact wpAnyH_cast rfl rfl (tailra4 vF v10 Wra6 hF h10 hSWra6)
                refine AllReadyH.cons (o := ⟨some 9, _, _, _, _, _⟩) rfl (fun K hK => ?_) ?_
                · skip
                  go_simp
                  have h9 := BxF.new wzra hS1.size (.slice none 0 0) 23
                  have hSWra7 := hS1.alloc hS1.size (.cells #[.slice none 0 0] 23)
                  refine hK.out _ _ hSWra7 (fun hHeld => ?_)
                  clear hK hHeld K
                  try clear hS1
                  try simp only [Act.put, List.setIfInBounds_toArray, List.set_cons_zero, List.set_cons_succ]
                  generalize (wzra.alloc (.cells #[.slice none 0 0] 23)) = Wra7 at h9 hSWra7 ⊢
                  generalize Value.pointer (some ⟨wzra.heap.size, 0, none⟩) = v9 at h9 ⊢
                  refine wpAnyH_ready (rs := [1, 5]) (by kernel_rfl) (by simp) ?_
                  refine AllReadyH.cons (o := ⟨some 19, _, _, _, _, _⟩) rfl (fun K hK => ?_) ?_
                  · skip
                    go_simp
                    go_at_call 32
                    refine (CF.out Wra7 hSWra7).mono ?_
                    rintro e Wra8 ⟨vF, rfl, hF, hbWra8⟩
                    replace h9 := h9.below hbWra8
                    have hSWra8 := hSWra7.trans (hbWra8.mono hSWra7.size)
                    try clear hSWra7
                    clear hbWra8
                    go_wp2_with fail
                    refine hK.out _ _ hSWra8 (fun hHeld => ?_)
                    clear hK hHeld K
                    try simp only [Act.put, List.setIfInBounds_toArray, List.set_cons_zero, List.set_cons_succ]
                    exact wpAnyH_cast (by kernel_rfl) (by kernel_rfl) (tailra3 vF v9 Wra8 hF h9 hSWra8)
                  refine AllReadyH.cons (o := ⟨some 10, _, _, _, _, _⟩) rfl (fun K hK => ?_) AllReadyH.nil
                  go_simp
                  replace h9 := h9.alloc (.cells #[.map none] 57)
                  have h10 := BxF.new Wra7 hSWra7.size (.map none) 57
                  have hSWra9 := hSWra7.alloc hSWra7.size (.cells #[.map none] 57)
                  refine hK.out _ _ hSWra9 (fun hHeld => ?_)
                  clear hK hHeld K
                  try clear hSWra7
                  try simp only [Act.put, List.setIfInBounds_toArray, List.set_cons_zero, List.set_cons_succ]
                  generalize (Wra7.alloc (.cells #[.map none] 57)) = Wra9 at h9 h10 hSWra9 ⊢
                  generalize Value.pointer (some ⟨Wra7.heap.size, 0, none⟩) = v10 at h10 ⊢
                  exact wpAnyH_cast rfl rfl (tailra5 v9 v10 Wra9 h9 h10 hSWra9)
                refine AllReadyH.cons (o := ⟨some 10, _, _, _, _, _⟩) rfl (fun K hK => ?_) AllReadyH.nil
                go_simp
                have h10 := BxF.new wzra hS1.size (.map none) 57
                have hSWra10 := hS1.alloc hS1.size (.cells #[.map none] 57)
                refine hK.out _ _ hSWra10 (fun hHeld => ?_)
                clear hK hHeld K
                try clear hS1
                try simp only [Act.put, List.setIfInBounds_toArray, List.set_cons_zero, List.set_cons_succ]
                generalize (wzra.alloc (.cells #[.map none] 57)) = Wra10 at h10 hSWra10 ⊢
                generalize Value.pointer (some ⟨wzra.heap.size, 0, none⟩) = v10 at h10 ⊢
                refine wpAnyH_ready (rs := [1, 4]) (by kernel_rfl) (by simp) ?_
                refine AllReadyH.cons (o := ⟨some 19, _, _, _, _, _⟩) rfl (fun K hK => ?_) ?_
                · skip
                  go_simp
                  go_at_call 32
                  refine (CF.out Wra10 hSWra10).mono ?_
                  rintro e Wra11 ⟨vF, rfl, hF, hbWra11⟩
                  replace h10 := h10.below hbWra11
                  have hSWra11 := hSWra10.trans (hbWra11.mono hSWra10.size)
                  try clear hSWra10
                  clear hbWra11
                  go_wp2_with fail
                  refine hK.out _ _ hSWra11 (fun hHeld => ?_)
                  clear hK hHeld K
                  try simp only [Act.put, List.setIfInBounds_toArray, List.set_cons_zero, List.set_cons_succ]
                  exact wpAnyH_cast (by kernel_rfl) (by kernel_rfl) (tailra4 vF v10 Wra11 hF h10 hSWra11)
                refine AllReadyH.cons (o := ⟨some 9, _, _, _, _, _⟩) rfl (fun K hK => ?_) AllReadyH.nil
                go_simp
                replace h10 := h10.alloc (.cells #[.slice none 0 0] 23)
                have h9 := BxF.new Wra10 hSWra10.size (.slice none 0 0) 23
                have hSWra12 := hSWra10.alloc hSWra10.size (.cells #[.slice none 0 0] 23)
                refine hK.out _ _ hSWra12 (fun hHeld => ?_)
                clear hK hHeld K
                try clear hSWra10
                try simp only [Act.put, List.setIfInBounds_toArray, List.set_cons_zero, List.set_cons_succ]
                generalize (Wra10.alloc (.cells #[.slice none 0 0] 23)) = Wra12 at h10 h9 hSWra12 ⊢
                generalize Value.pointer (some ⟨Wra10.heap.size, 0, none⟩) = v9 at h9 ⊢
                exact wpAnyH_cast (by kernel_rfl) (by kernel_rfl) (tailra5 v9 v10 Wra12 h9 h10 hSWra12)
              case ttailra3 =>
                try clear hS1
                intro vF v9 Wra13 hF h9 hSWra13
                refine wpAnyH_ready (rs := [3, 5]) (by kernel_rfl) (by simp) ?_
                refine AllReadyH.cons (o := ⟨some 21, _, _, _, _, _⟩) rfl (fun K hK => ?_) ?_
                · skip
                  go_simp
                  go_at_call 36
                  refine (CO.out Wra13 hSWra13).mono ?_
                  rintro e Wra14 ⟨vM, rfl, hP, hbWra14⟩
                  replace hF := hF.below hbWra14
                  replace h9 := h9.below hbWra14
                  have hSWra14 := hSWra13.trans (hbWra14.mono hSWra13.size)
                  try clear hSWra13
                  clear hbWra14
                  go_wp2_with fail
                  refine hK.out _ _ hSWra14 (fun hHeld => ?_)
                  clear hK hHeld K
                  try simp only [Act.put, List.setIfInBounds_toArray, List.set_cons_zero, List.set_cons_succ]
                  exact wpAnyH_cast (by kernel_rfl) (by kernel_rfl) (tailra6 vF vM v9 Wra14 hF hP h9 hSWra14)
                refine AllReadyH.cons (o := ⟨some 10, _, _, _, _, _⟩) rfl (fun K hK => ?_) AllReadyH.nil
                go_simp
                replace hF := hF.alloc (.cells #[.map none] 57)
                replace h9 := h9.alloc (.cells #[.map none] 57)
                have h10 := BxF.new Wra13 hSWra13.size (.map none) 57
                have hSWra15 := hSWra13.alloc hSWra13.size (.cells #[.map none] 57)
                refine hK.out _ _ hSWra15 (fun hHeld => ?_)
                clear hK hHeld K
                try clear hSWra13
                try simp only [Act.put, List.setIfInBounds_toArray, List.set_cons_zero, List.set_cons_succ]
                generalize (Wra13.alloc (.cells #[.map none] 57)) = Wra15 at hF h9 h10 hSWra15 ⊢
                generalize Value.pointer (some ⟨Wra13.heap.size, 0, none⟩) = v10 at h10 ⊢
                exact wpAnyH_cast rfl rfl (tailra8 vF v9 v10 Wra15 hF h9 h10 hSWra15)
            case ttailra4 =>
              try clear hS1
              intro vF v10 Wra16 hF h10 hSWra16
              refine wpAnyH_ready (rs := [3, 4]) (by kernel_rfl) (by simp) ?_
              refine AllReadyH.cons (o := ⟨some 21, _, _, _, _, _⟩) rfl (fun K hK => ?_) ?_
              · skip
                go_simp
                go_at_call 36
                refine (CO.out Wra16 hSWra16).mono ?_
                rintro e Wra17 ⟨vM, rfl, hP, hbWra17⟩
                replace hF := hF.below hbWra17
                replace h10 := h10.below hbWra17
                have hSWra17 := hSWra16.trans (hbWra17.mono hSWra16.size)
                try clear hSWra16
                clear hbWra17
                go_wp2_with fail
                refine hK.out _ _ hSWra17 (fun hHeld => ?_)
                clear hK hHeld K
                try simp only [Act.put, List.setIfInBounds_toArray, List.set_cons_zero, List.set_cons_succ]
                exact wpAnyH_cast (by kernel_rfl) (by kernel_rfl) (tailra7 vF vM v10 Wra17 hF hP h10 hSWra17)
              refine AllReadyH.cons (o := ⟨some 9, _, _, _, _, _⟩) rfl (fun K hK => ?_) AllReadyH.nil
              go_simp
              replace hF := hF.alloc (.cells #[.slice none 0 0] 23)
              replace h10 := h10.alloc (.cells #[.slice none 0 0] 23)
              have h9 := BxF.new Wra16 hSWra16.size (.slice none 0 0) 23
              have hSWra18 := hSWra16.alloc hSWra16.size (.cells #[.slice none 0 0] 23)
              refine hK.out _ _ hSWra18 (fun hHeld => ?_)
              clear hK hHeld K
              try clear hSWra16
              try simp only [Act.put, List.setIfInBounds_toArray, List.set_cons_zero, List.set_cons_succ]
              generalize (Wra16.alloc (.cells #[.slice none 0 0] 23)) = Wra18 at hF h10 h9 hSWra18 ⊢
              generalize Value.pointer (some ⟨Wra16.heap.size, 0, none⟩) = v9 at h9 ⊢
              exact wpAnyH_cast (by kernel_rfl) (by kernel_rfl) (tailra8 vF v9 v10 Wra18 hF h9 h10 hSWra18)
          case ttailra5 =>
            try clear hS1
            intro v9 v10 Wra19 h9 h10 hSWra19
            refine wpAnyH_ready (rs := [1]) (by kernel_rfl) (by simp) ?_
            refine AllReadyH.cons (o := ⟨some 19, _, _, _, _, _⟩) rfl (fun K hK => ?_) AllReadyH.nil
            go_simp
            go_at_call 32
            refine (CF.out Wra19 hSWra19).mono ?_
            rintro e Wra20 ⟨vF, rfl, hF, hbWra20⟩
            replace h9 := h9.below hbWra20
            replace h10 := h10.below hbWra20
            have hSWra20 := hSWra19.trans (hbWra20.mono hSWra19.size)
            try clear hSWra19
            clear hbWra20
            go_wp2_with fail
            refine hK.out _ _ hSWra20 (fun hHeld => ?_)
            clear hK hHeld K
            try simp only [Act.put, List.setIfInBounds_toArray, List.set_cons_zero, List.set_cons_succ]
            exact wpAnyH_cast (by kernel_rfl) (by kernel_rfl) (tailra8 vF v9 v10 Wra20 hF h9 h10 hSWra20)
        case ttailra6 =>
          try clear hS1
          intro vF vM v9 Wra21 hF hP h9 hSWra21
          refine wpAnyH_ready (rs := [5]) (by kernel_rfl) (by simp) ?_
          refine AllReadyH.cons (o := ⟨some 10, _, _, _, _, _⟩) rfl (fun K hK => ?_) AllReadyH.nil
          go_simp
          replace hF := hF.alloc (.cells #[.map none] 57)
          replace hP := hP.alloc (.cells #[.map none] 57)
          replace h9 := h9.alloc (.cells #[.map none] 57)
          have h10 := BxF.new Wra21 hSWra21.size (.map none) 57
          have hSWra22 := hSWra21.alloc hSWra21.size (.cells #[.map none] 57)
          refine hK.out _ _ hSWra22 (fun hHeld => ?_)
          clear hK hHeld K
          try clear hSWra21
          try simp only [Act.put, List.setIfInBounds_toArray, List.set_cons_zero, List.set_cons_succ]
          generalize (Wra21.alloc (.cells #[.map none] 57)) = Wra22 at hF hP h9 h10 hSWra22 ⊢
          generalize Value.pointer (some ⟨Wra21.heap.size, 0, none⟩) = v10 at h10 ⊢
          exact wpAnyH_cast rfl rfl (tailra9 vF vM v9 v10 Wra22 hF hP h9 h10 hSWra22)
      case ttailra7 =>
        try clear hS1
        intro vF vM v10 Wra23 hF hP h10 hSWra23
        refine wpAnyH_ready (rs := [4]) (by kernel_rfl) (by simp) ?_
        refine AllReadyH.cons (o := ⟨some 9, _, _, _, _, _⟩) rfl (fun K hK => ?_) AllReadyH.nil
        go_simp
        replace hF := hF.alloc (.cells #[.slice none 0 0] 23)
        replace hP := hP.alloc (.cells #[.slice none 0 0] 23)
        replace h10 := h10.alloc (.cells #[.slice none 0 0] 23)
        have h9 := BxF.new Wra23 hSWra23.size (.slice none 0 0) 23
        have hSWra24 := hSWra23.alloc hSWra23.size (.cells #[.slice none 0 0] 23)
        refine hK.out _ _ hSWra24 (fun hHeld => ?_)
        clear hK hHeld K
        try clear hSWra23
        try simp only [Act.put, List.setIfInBounds_toArray, List.set_cons_zero, List.set_cons_succ]
        generalize (Wra23.alloc (.cells #[.slice none 0 0] 23)) = Wra24 at hF hP h10 h9 hSWra24 ⊢
        generalize Value.pointer (some ⟨Wra23.heap.size, 0, none⟩) = v9 at h9 ⊢
        exact wpAnyH_cast (by kernel_rfl) (by kernel_rfl) (tailra9 vF vM v9 v10 Wra24 hF hP h9 h10 hSWra24)
    case ttailra8 =>
      try clear hS1
      intro vF v9 v10 Wra25 hF h9 h10 hSWra25
      refine wpAnyH_ready (rs := [3]) (by kernel_rfl) (by simp) ?_
      refine AllReadyH.cons (o := ⟨some 21, _, _, _, _, _⟩) rfl (fun K hK => ?_) AllReadyH.nil
      go_simp
      go_at_call 36
      refine (CO.out Wra25 hSWra25).mono ?_
      rintro e Wra26 ⟨vM, rfl, hP, hbWra26⟩
      replace hF := hF.below hbWra26
      replace h9 := h9.below hbWra26
      replace h10 := h10.below hbWra26
      have hSWra26 := hSWra25.trans (hbWra26.mono hSWra25.size)
      try clear hSWra25
      clear hbWra26
      go_wp2_with fail
      refine hK.out _ _ hSWra26 (fun hHeld => ?_)
      clear hK hHeld K
      try simp only [Act.put, List.setIfInBounds_toArray, List.set_cons_zero, List.set_cons_succ]
      exact wpAnyH_cast (by kernel_rfl) (by kernel_rfl) (tailra9 vF vM v9 v10 Wra26 hF hP h9 h10 hSWra26)
  case ttailra9 =>
    try clear hS1
    intro vF vM v9 v10 Wra27 hF hP h9 h10 hSWra27
    refine wpAnyH_ready (rs := [6]) (by kernel_rfl) (by simp) ?_
    refine AllReadyH.cons (o := ⟨none, _, _, _, _, _⟩) rfl (fun K hK => ?_) AllReadyH.nil
    obtain ⟨AF, cF, rfl⟩ := Own.slice hF
    obtain ⟨b9, rfl, hb9, h9⟩ := h9
    obtain ⟨b10, rfl, hb10, h10⟩ := h10
    obtain ⟨B, baseM, NM, rfl, hGP, hNM, hB1⟩ := hP
    have c9 := cell_of_one h9
    have f9 := free_of_one h9
    have hne := One1.ne h9 h10 (by decide)
    have hF2 := ownI_set (z := .slice AF F.length cF) hF h9 (by decide)
    have hG2 := hGP.set (z := .slice AF F.length cF) h9 (by decide)
    have h92 : One1 (Wra27.setCell ⟨b9, 0, none⟩ (.slice AF F.length cF)) b9 (.slice AF F.length cF) 23 := one_setCell h9
    have h102 : One1 (Wra27.setCell ⟨b9, 0, none⟩ (.slice AF F.length cF)) b10 (.map none) 57 := h10.other (by simpa using Ne.symm hne) _
    have hS6 := hSWra27.setCell (p := ⟨b9, 0, none⟩) hb9 (.slice AF F.length cF)
    clear hF h9 h10 hGP hSWra27
    go_simp
    go_wp2_with fail
    clear c9 f9
    refine hK.out _ _ hS6 (fun hHeld => ?_)
    clear hK hHeld K
    try simp only [Act.put, List.setIfInBounds_toArray, List.set_cons_zero, List.set_cons_succ]
    generalize (Wra27.setCell ⟨b9, 0, none⟩ (.slice AF F.length cF)) = W6 at hF2 hG2 h92 h102 hS6 ⊢
    refine wpAnyH_ready (rs := [7]) (by kernel_rfl) (by simp) ?_
    refine AllReadyH.cons (o := ⟨none, _, _, _, _, _⟩) rfl (fun K hK => ?_) AllReadyH.nil
    have c10 := cell_of_one h102
    have f10 := free_of_one h102
    have hF := ownI_set (z := .map (some B)) hF2 h102 (by decide)
    have hGP := hG2.set (z := .map (some B)) h102 (by decide)
    have h10 : One1 (W6.setCell ⟨b10, 0, none⟩ (.map (some B))) b10 (.map (some B)) 57 := one_setCell h102
    have h9 : One1 (W6.setCell ⟨b10, 0, none⟩ (.map (some B))) b9 (.slice AF F.length cF) 23 := h92.other (by simpa using hne) _
    have hS7 := hS6.setCell (p := ⟨b10, 0, none⟩) hb10 (.map (some B))
    clear hF2 hG2 h92 h102 hS6
    go_simp
    go_wp2_with fail
    clear c10 f10
    refine hK.out _ _ hS7 (fun hHeld => ?_)
    clear hK hHeld K
    try simp only [Act.put, List.setIfInBounds_toArray, List.set_cons_zero, List.set_cons_succ]
    generalize (W6.setCell ⟨b10, 0, none⟩ (.map (some B))) = W7 at hF hGP h9 h10 hS7 ⊢
    refine wpAnyH_done (by kernel_rfl) ?_ _
    go_wp2_with fail
    have h4 := four W7 (.slice none 0 0) (.bool false) (.func (.func 41) #[] #[.pointer (some ⟨w.heap.size + 1 + 1, 0, none⟩)]) (.func (.func 42) #[] #[.pointer (some ⟨b9, 0, none⟩), .pointer (some ⟨W7.heap.size, 0, none⟩), .pointer (some ⟨w.heap.size + 1, 0, none⟩), .pointer (some ⟨W7.heap.size + 1, 0, none⟩), .pointer (some ⟨b10, 0, none⟩), .pointer (some ⟨w.heap.size, 0, none⟩), .pointer (some ⟨W7.heap.size + 1 + 1, 0, none⟩), .pointer (some ⟨W7.heap.size + 1 + 1 + 1, 0, none⟩)]) 23 4 25 61
    generalize (((W7.alloc (.cells #[.slice none 0 0] 23)).alloc (.cells #[.bool false] 4)).alloc (.cells #[.func (.func 41) #[] #[.pointer (some ⟨w.heap.size + 1 + 1, 0, none⟩)]] 25)).alloc (.cells #[.func (.func 42) #[] #[.pointer (some ⟨b9, 0, none⟩), .pointer (some ⟨W7.heap.size, 0, none⟩), .pointer (some ⟨w.heap.size + 1, 0, none⟩), .pointer (some ⟨W7.heap.size + 1, 0, none⟩), .pointer (some ⟨b10, 0, none⟩), .pointer (some ⟨w.heap.size, 0, none⟩), .pointer (some ⟨W7.heap.size + 1 + 1, 0, none⟩), .pointer (some ⟨W7.heap.size + 1 + 1 + 1, 0, none⟩)]] 61) = W8 at h4 ⊢
    obtain ⟨k8, s8, oN, oO, oS, oR⟩ := h4
    have hw7 := hS7.size
    have k18 := hS7.trans (k8.mono hw7)
    have kw8 := hb1.trans (k18.mono hb1.size)
    have hk0 : Kp W8 W8.heap.size (fun b => b = W7.heap.size ∨ b = w.heap.size + 1 ∨ b = W7.heap.size + 1 ∨ b = w.heap.size + 1 + 1) W8 := Kp.refl (Nat.le_refl _)
    have hd : Hid (Dis W8.heap.size (fun b => b = W7.heap.size ∨ b = w.heap.size + 1 ∨ b = W7.heap.size + 1 ∨ b = w.heap.size + 1 + 1) W7.heap.size (w.heap.size + 1) (W7.heap.size + 1) (w.heap.size + 1 + 1)) :=
      Lib.hid ⟨⟨.inl rfl, .inr (.inl rfl), .inr (.inr (.inl rfl)), .inr (.inr (.inr rfl))⟩, ⟨by omega, by omega, by omega, by omega⟩, by omega, by omega, by omega, by omega, by omega, by omega⟩
    have hBlt := (show B < W7.heap.size from by obtain ⟨V, h, _⟩ := hGP; exact h.lt)
    have hF8 := Own.below hF k8
    have hb9l := lt_of_block h9
    have hb10l := lt_of_block h10
    have hL8 : One1 W8 w.heap.size (.slice AL l.length cL) 22 := (k18.block _ (by omega)).trans hL1
    have hC8 : One1 W8 (w.heap.size + 1) (.slice none 0 0) 23 := (k18.block _ (by omega)).trans hC1
    have hT8 : One1 W8 (w.heap.size + 1 + 1) (.int .i64 (lim : Int)) 3 := (k18.block _ (by omega)).trans hT1
    have h98 := h9.below k8
    have h108 := h10.below k8
    have hR8 := HR.out.below kw8
    have hltF := World.ownsRow.lt hF
    obtain ⟨V, hM7, hB2, hB3, hrows⟩ := hGP
    have hM := hM7.below k8
    have HX : Hid (∀ W, Kp W8 W8.heap.size (fun b => b = W7.heap.size ∨ b = w.heap.size + 1 ∨ b = W7.heap.size + 1 ∨ b = w.heap.size + 1 + 1) W → Sta l F b9 b10 w.heap.size (W7.heap.size + 1 + 1) (W7.heap.size + 1 + 1 + 1) W7.heap.size (w.heap.size + 1) (W7.heap.size + 1) (w.heap.size + 1 + 1) B NM AF AL cF cL V W) := Lib.hid (fun W hW => by
      refine ⟨(hW.cell0 (b := b9) (by omega) (by show ¬ (_ ∨ _); omega)).trans (cell_of_one h98), (hW.cell0 (b := b10) (by omega) (by show ¬ (_ ∨ _); omega)).trans (cell_of_one h108), (hW.cell0 (b := w.heap.size) (by omega) (by show ¬ (_ ∨ _); omega)).trans (cell_of_one hL8), (hW.cell0 (b := W7.heap.size + 1 + 1) (by omega) (by show ¬ (_ ∨ _); omega)).trans (cell_of_one oS), (hW.cell0 (b := W7.heap.size + 1 + 1 + 1) (by omega) (by show ¬ (_ ∨ _); omega)).trans (cell_of_one oR), ?_, ?_, ?_⟩
      · exact Own.rd encI_len (hW.own hF8 (fun j hj => by
          have := hltF j hj
          exact ⟨by omega, by show ¬ (_ ∨ _); omega⟩))
      · exact HR.out.below (kw8.trans (hW.toBelow hW.size (by omega) (fun b hb => by show ¬ (_ ∨ _); omega)))
      · exact hW.map hM (by omega) (by show ¬ (_ ∨ _); omega))
    have HV : Hid (∀ f, ∃ A c, (V f).getD nilS = .slice A (ordL l f).length c ∧ (ordL l f).length ≤ c ∧ ∀ W, Kp W8 W8.heap.size (fun b => b = W7.heap.size ∨ b = w.heap.size + 1 ∨ b = W7.heap.size + 1 ∨ b = w.heap.size + 1 + 1) W → RdI W A (ordL l f)) := Lib.hid (fun f => by
      rw [HG0.out]
      have hrf := hrows.1 f (by simp)
      obtain ⟨A, c, e, hc, _⟩ := hrf.sl
      refine ⟨A, c, e, hc, fun W hW => ?_⟩
      have hltR := World.ownsRow.lt hrf
      have := hW.own (Own.below hrf k8) (fun j hj => by
        have := hltR j hj
        exact ⟨by omega, by show ¬ (_ ∨ _); omega⟩)
      rw [e] at this
      exact Own.rd encI_len this)
    have hSt0 : StX W8 W8.heap.size (fun b => b = W7.heap.size ∨ b = w.heap.size + 1 ∨ b = W7.heap.size + 1 ∨ b = w.heap.size + 1 + 1) lim W7.heap.size (w.heap.size + 1) (W7.heap.size + 1) (w.heap.size + 1 + 1) W8 [] ⟨0, none⟩ :=
      ⟨hk0, Nat.zero_le _, by simpa using hT8, oO, _, _, oN, hC8, Own.nil _ _, Own.nil _ _, fun j hj => by simp [Value.ownBlock] at hj⟩
    have hfl : F.length ≤ 1000 := by omega
    have hsr := place_search hl hfl HLE.out HWF hd HX HV F 0 [] ⟨0, none⟩ W8 rfl (Nat.zero_le _) (fun j hj => by simp at hj) (Nat.le_refl _) hSt0
    have HKB : Hid (∀ W, Kp W8 W8.heap.size (fun b => b = W7.heap.size ∨ b = w.heap.size + 1 ∨ b = W7.heap.size + 1 ∨ b = w.heap.size + 1 + 1) W → Below w.heap.size w W) := Lib.hid (fun W hW => kw8.trans (hW.toBelow hW.size (by omega) (fun b hb => by show ¬ (_ ∨ _); omega)))
    have hcb : w.heap.size + 1 < W8.heap.size := by omega
    clear hSt0 HX HV hM hM7 hrows hB2 hB3 hltF hR8 h98 h108 hT8 hC8 hL8 hb9l hb10l hF8 hBlt hk0 kw8 k18 k8 oN oO oS oR hF h9 h10 hS7 hd hT1 hC1 hL1 s8 hw7
    refine hsr.mono ?_
    clear hsr
    rintro e w9 hpost
    rcases ho : srch l lim F [] ⟨0, none⟩ with _ | y
    · rw [ho] at hpost
      obtain ⟨rfl, hK9, v9, hC9⟩ := hpost
      have HE : Hid (ex = none) := Lib.hid (by rw [HEX.out, ho]; rfl)
      have hc9 := cell_of_one hC9
      have hf9 := free_of_one hC9
      have hcn : (w9.setCell ⟨w.heap.size + 1, 0, none⟩ (.slice none 0 0)).cell? ⟨w.heap.size + 1, 0, none⟩ = some (.slice none 0 0) := cell_of_one (one_setCell hC9)
      have HB := Lib.hid ((HKB.out w9 hK9).setCell (p := ⟨w.heap.size + 1, 0, none⟩) (by show w.heap.size ≤ w.heap.size + 1; omega) (.slice none 0 0))
      clear ho hK9 hC9
      go_wp2_with fail
      refine bodyPost_ret (v := .tuple #[.slice none 0 0, .int .i64 24]) (by simp [results, Try.results20, go_sem, hcn]) rfl ?_
      rw [HE.out]
      exact ⟨_, rfl, ⟨none, 0, rfl, Nat.le_refl _, Rd.nil _⟩, HB.out⟩
    · rw [ho] at hpost
      obtain ⟨rfl, hK9, hm9, hT9, hO9, vN, vC, hN9, hC9, h29⟩ := hpost
      obtain ⟨b, hb, hfound⟩ := srch_found ho
      rw [hb] at h29
      have hownC : OwnI 3 w9 W8.heap.size vC b := h29.2.1
      have hnd := allC_nodup l F [] HNF.out (noneOf_nil l F) List.nodup_nil b hfound.mem
      have hbl := allC_len F [] b hfound.mem
      simp only [List.length_nil, Nat.zero_add] at hbl
      have HE : Hid (ex = some (setL b)) := Lib.hid (by rw [HEX.out, ho]; simp [hb])
      have HND := Lib.hid (setL_nodup hnd)
      obtain ⟨AC, cC, rfl⟩ := Own.slice hownC
      have hheld := own_held hownC
      have hc9 := cell_of_one hC9
      have hsz9 := hK9.size
      have HC9 := Lib.hid hC9
      have HB := Lib.hid (HKB.out w9 hK9)
      clear ho hK9 hC9 hT9 hO9 hN9 h29 hnd hfound hb hm9
      go_wp2_with fail
      refine (sort_held hheld (by omega)).mono ?_
      rintro e w10 ⟨rfl, hh10, hb10'⟩
      have hb := hb10' hsz9
      have hr10 := (held_rd hh10).2
      have hl10 := (held_rd hh10).1
      rw [← HND.out] at hr10 hl10
      have hcap : b.length ≤ cC := by
        rcases hheld with ⟨_, _, he, h0⟩ | ⟨_, _, he, _, _, hc, _⟩
        · rw [h0]; exact Nat.zero_le _
        · injection he with _ _ he; rw [he]; exact hc
      have hC10 : One1 w10 (w.heap.size + 1) (.slice AC b.length cC) 23 := (hb.block _ hcb).trans HC9.out
      have hc10 := cell_of_one hC10
      have hf10 := free_of_one hC10
      have hcn : (w10.setCell ⟨w.heap.size + 1, 0, none⟩ (.slice AC b.length cC)).cell? ⟨w.heap.size + 1, 0, none⟩ = some (.slice AC b.length cC) := cell_of_one (one_setCell hC10)
      have hwb : w.heap.size ≤ W8.heap.size := by omega
      have hbw10 := HB.out.trans (hb.mono hwb)
      have HBF := Lib.hid (hbw10.setCell (p := ⟨w.heap.size + 1, 0, none⟩) (by show w.heap.size ≤ w.heap.size + 1; omega) (.slice AC b.length cC))
      have hrf : RdI (w10.setCell ⟨w.heap.size + 1, 0, none⟩ (.slice AC b.length cC)) AC (setL b) := by
        rw [HND.out]
        exact held_set hh10 hcb
      have HS : Hid (SlI (w10.setCell ⟨w.heap.size + 1, 0, none⟩ (.slice AC b.length cC)) (.slice AC b.length cC) (setL b)) := Lib.hid ⟨AC, cC, by rw [hl10], by omega, hrf⟩
      clear hheld hh10 hb10' hb hr10 hl10 hC10 hbw10 hrf hc9
      go_wp2_with fail
      refine bodyPost_ret (v := .tuple #[.slice AC b.length cC, .int .i64 0]) (by simp [results, Try.results20, go_sem, hcn]) rfl ?_
      rw [HE.out]
      exact ⟨_, rfl, HS.out, HBF.out⟩
end Go.Proofs
/- Words for the program's Best: appending a row to a row of the call's own; the map of clusters; empty rows. -/
set_option linter.unusedVariables false
set_option linter.unusedSimpArgs false
namespace Go.Proofs
open Go.RowKit Go.Proofs.Mp Go.Proofs.Uf Go.Maps

theorem flat_len (ys : List Int) : (ys.flatMap Mp.encI).length = ys.length * 1 := by
  induction ys with
  | nil => rfl
  | cons z zs ih => rw [List.flatMap_cons, List.length_append, ih, List.length_cons]; simp [Mp.encI]; omega
theorem flat_get : ∀ (ys : List Int) (j : Nat) (u : Value), (ys.flatMap Mp.encI)[j]? = some u → j < ys.length ∧ u = .int .i64 ys[j]!
  | [], j, u, h => by simp at h
  | y :: ys, 0, u, h => by
    rw [List.flatMap_cons] at h
    simp [Mp.encI] at h
    exact ⟨by simp, by rw [← h]; simp⟩
  | y :: ys, j + 1, u, h => by
    rw [List.flatMap_cons] at h
    have h : (ys.flatMap Mp.encI)[j]? = some u := by simpa [Mp.encI] using h
    obtain ⟨h1, h2⟩ := flat_get ys j u h
    exact ⟨by simp; omega, by rw [h2]; simp⟩
theorem addr_add (b off j : Nat) : (⟨b, off, none⟩ : Addr).add j = ⟨b, off + j, none⟩ := by
  unfold Addr.add
  split
  · simp_all
  · simp
/-- append(out, ys...) -/
theorem app_any {W : World} {base : Nat} {v u : Value} {xs ys : List Int} {ops : Array Oper} {rest : List Oper} {o : Oper} {a : Act} {Q : Exit → Act → World → Prop}
    (hown : OwnI 3 W base v xs) (hu : SlI W u ys) (hgd : o.guard = none) (s x : Operand)
    (ho : o.op = .call { callee := .builtin .append, args := #[s, x], argTypes := #[23, 23] }) (hs : a.eval s = v) (hx : a.eval x = u)
    (hN : xs.length + ys.length ≤ 1000000000000) (hbase : base ≤ W.heap.size)
    (h : ∀ v' w', OwnI 3 w' base v' (xs ++ ys) → Below base W w' → wpList Try.prog ops Q rest (a.put o.dst v') w') :
    wpList Try.prog ops Q (o :: rest) a W := by
  obtain ⟨i0, hi, hz0, hz1, hz2⟩ := Mp.info_parts Try.infoI
  obtain ⟨A, c, rfl, hc, hR⟩ := hu
  have hgo : ∀ ad : Addr, A = some ad → (∀ j z, (ys.flatMap Mp.encI)[j]? = some z → W.cell? (ad.add j) = some z) → wpList Try.prog ops Q (o :: rest) a W := by
    rintro ad rfl hcell
    refine wpList_append_own W hgd s x 23 ho base 3 i0 (.int .i64 0) 1 8 Try.underlying23 hi hz0 hz1 hz2 rfl (by decide) v xs.length (xs.flatMap Mp.encI) hs hown ad ys.length c (ys.flatMap Mp.encI) hx (flat_len ys) hcell ?_ (by unfold maxLen; omega) (by omega) hbase ?_
    · intro z hz
      obtain ⟨y, _, hz⟩ := List.mem_flatMap.1 hz
      exact encI_one y z hz
    · intro v' w' h1 h2 _
      refine h v' w' ?_ ((Below.refl _ _).grown h2 hbase (fun k hk => (World.ownsRow.lt hown k hk).1))
      unfold OwnI Own
      rw [List.length_append, List.flatMap_append]
      exact h1
  rcases A with _ | ad
  · have hy : ys = [] := by
      rcases hR with h0 | ⟨b, off, e, _⟩
      · exact h0
      · cases e
    subst hy
    refine wpList_plain hgd fun K hK => ?_
    have hrun : (Builtin.append_ #[23, 23] o.type #[v, .slice none 0 c]).run Try.prog W = .ok v W := by
      rcases hown.2 with ⟨rfl, h0⟩ | ⟨g, cap, cur, rfl, _, _, hnc, _⟩
      · simp [h0, Builtin.append_, run_underlying Try.underlying23, sizeOf, typeInfo, hi, Builtin.lenOf, Builtin.firstCells]
      · simp [Builtin.append_, run_underlying Try.underlying23, sizeOf, typeInfo, hi, Builtin.lenOf, Builtin.firstCells, hnc, storeCells]
    unfold Oper.wp
    simp [execOp, ho, resolve, invoke, builtin, hs, hx, hrun, Result.andThen]
    have hown' : OwnI 3 W base v (xs ++ []) := by rw [List.append_nil]; exact hown
    exact hK _ _ (h v W hown' (Below.refl _ _))
  · refine hgo ad rfl fun j z hz => ?_
    obtain ⟨hj, rfl⟩ := flat_get ys j z hz
    rcases hR with rfl | ⟨b, off, e, hlt, hcc⟩
    · exact absurd hj (Nat.not_lt_zero _)
    · have e := Option.some.inj e
      rw [e]
      have := hcc j hj 0 (.int .i64 ys[j]!) rfl
      rw [Nat.mul_one] at this
      rw [addr_add]
      exact this

/-- the map of clusters -/
def cmap (L : List (Int × Nat)) : Int → Option Value := L.foldl (fun V p => setV V p.1 (.int .i64 (p.2 : Nat))) (fun _ => none)
theorem cmap_snoc (L : List (Int × Nat)) (p : Int × Nat) : cmap (L ++ [p]) = setV (cmap L) p.1 (.int .i64 (p.2 : Nat)) := by unfold cmap; rw [List.foldl_append]; rfl
theorem cmap_spec (L : List (Int × Nat)) (z : Int) : (∀ v, cmap L z = some v → ∃ n, (z, n) ∈ L ∧ v = .int .i64 (n : Nat)) ∧ (cmap L z = none → ∀ n, (z, n) ∉ L) := by
  have key : ∀ (k : Nat) (L : List (Int × Nat)), L.length = k → (∀ v, cmap L z = some v → ∃ n, (z, n) ∈ L ∧ v = .int .i64 (n : Nat)) ∧ (cmap L z = none → ∀ n, (z, n) ∉ L) := by
    intro k
    induction k with
    | zero =>
      intro L h
      rw [List.eq_nil_of_length_eq_zero h]
      exact ⟨fun v h => absurd (show (none : Option Value) = some v from h) (by simp), fun _ n h => by simp at h⟩
    | succ k ih =>
      intro L h
      rcases List.eq_nil_or_concat L with rfl | ⟨L', p, rfl⟩
      · simp at h
      · rw [List.concat_eq_append] at h ⊢
        obtain ⟨i1, i2⟩ := ih L' (by simpa using h)
        rw [cmap_snoc]
        by_cases e : z = p.1
        · subst e
          rw [setV_same]
          refine ⟨fun v hv => ?_, fun hv => by cases hv⟩
          injection hv with hv
          exact ⟨p.2, by simp, hv.symm⟩
        · rw [setV_ne e]
          refine ⟨fun v hv => ?_, fun hv n hn => ?_⟩
          · obtain ⟨n, h1, h2⟩ := i1 v hv
            exact ⟨n, List.mem_append_left _ h1, h2⟩
          · rcases List.mem_append.1 hn with hn | hn
            · exact i2 hv n hn
            · rw [← List.mem_singleton.1 hn] at e
              exact e rfl
  exact key _ L rfl
def cpairs (cls : List (List Int)) (k j : Nat) : List (Int × Nat) := ((List.range k).flatMap fun n => cls[n]!.map fun z => (z, n)) ++ (cls[k]!.take j).map fun z => (z, k)
theorem cpairs_step {cls : List (List Int)} {k j : Nat} (h : j < cls[k]!.length) : cpairs cls k (j + 1) = cpairs cls k j ++ [(cls[k]![j]!, k)] := by
  unfold cpairs
  rw [List.take_succ_eq_append_getElem h, List.map_append, List.append_assoc, getElem!_pos cls[k]! j h]
  rfl
theorem cpairs_row (cls : List (List Int)) (k : Nat) : cpairs cls k cls[k]!.length = cpairs cls (k + 1) 0 := by
  unfold cpairs
  rw [List.take_length, List.range_succ, List.flatMap_append]
  simp
theorem cpairs_len {cls : List (List Int)} {M : Nat} (hM : ∀ n : Nat, (cls[n]!).length ≤ M) (k j : Nat) : (cpairs cls k j).length ≤ k * M + j := by
  unfold cpairs
  rw [List.length_append, List.length_map, List.length_take]
  have : ((List.range k).flatMap fun n => cls[n]!.map fun z => (z, n)).length ≤ k * M := by
    induction k with
    | zero => simp
    | succ k ih =>
      rw [List.range_succ, List.flatMap_append, List.length_append, Nat.succ_mul]
      have := hM k
      simp only [List.flatMap_cons, List.flatMap_nil, List.append_nil, List.length_map]
      omega
  omega
theorem cpairs_mem {cls : List (List Int)} {z : Int} {n : Nat} : (z, n) ∈ cpairs cls cls.length 0 ↔ n < cls.length ∧ z ∈ cls[n]! := by
  unfold cpairs
  simp only [List.take_zero, List.map_nil, List.append_nil, List.mem_flatMap, List.mem_range, List.mem_map, Prod.mk.injEq]
  constructor
  · rintro ⟨n', h1, z', h2, rfl, rfl⟩
    exact ⟨h1, h2⟩
  · rintro ⟨h1, h2⟩
    exact ⟨n, h1, z, h2, rfl, rfl⟩

/-- the features of an order, cluster by cluster -/
def ownS (gs : List (List Int)) (V : Int → Option Nat) (id : Int) : List (List Int) := match V id with
  | none => gs
  | some n => gs.set n (gs[n]! ++ [id])

/-- empty rows, just made -/
theorem Mp.Nest.make {te ti : TypeId} {W : World} {base n : Nat} {av : Nat → Prop} {v : Value} (h : OwnA te 1 encV W base av v (List.replicate n nilS)) : Nest te ti W base av v (List.replicate n []) := by
  refine ⟨List.replicate n nilS, by simp, h, fun i hi => ?_⟩
  have hi' : i < n := by simpa using hi
  rw [getElem!_pos _ i hi, getElem!_pos (List.replicate n ([] : List Int)) i (by simpa using hi'), List.getElem_replicate, List.getElem_replicate]
  exact OwnA.nil _ _ _
end Go.Proofs
/- Plain: the clusters divide the features; what Best chooses. -/
set_option linter.unusedVariables false
set_option linter.unusedSimpArgs false
namespace Go.Proofs
open Go.RowKit Go.Proofs.Mp Go.Proofs.Uf

section
variable {l : List Cand}
/-- the first features of the groups -/
noncomputable def reps (l : List Cand) : List Int := (setL (feats l)).filter fun x => dec (∀ y ∈ setL (feats l), Conn (Ed l) x y → x ≤ y)
noncomputable def grpOf (l : List Cand) (r : Int) : List Int := (setL (feats l)).filter fun x => dec (Conn (Ed l) r x)
noncomputable def cls (l : List Cand) : List (List Int) := clS (Ed l) (setL (feats l))
theorem cls_eq (l : List Cand) : cls l = (reps l).map (grpOf l) := rfl
theorem cls_len (l : List Cand) : (cls l).length = (reps l).length := by rw [cls_eq, List.length_map]
theorem cls_get {i : Nat} (h : i < (reps l).length) : (cls l)[i]! = grpOf l (reps l)[i]! := by
  rw [getElem!_pos (cls l) i (by rw [cls_len]; exact h), getElem!_pos (reps l) i h]
  simp [cls_eq]
theorem mem_reps {r : Int} : r ∈ reps l ↔ r ∈ setL (feats l) ∧ ∀ y ∈ setL (feats l), Conn (Ed l) r y → r ≤ y := by
  unfold reps
  rw [List.mem_filter, dec_iff]
theorem mem_grp {r x : Int} : x ∈ grpOf l r ↔ x ∈ setL (feats l) ∧ Conn (Ed l) r x := by
  unfold grpOf
  rw [List.mem_filter, dec_iff]
theorem asc_filter {xs : List Int} (h : Asc xs) (p : Int → Bool) : Asc (xs.filter p) := List.Pairwise.filter p h
theorem reps_asc (l : List Cand) : Asc (reps l) := asc_filter (setL_asc _) _
theorem grp_asc (l : List Cand) (r : Int) : Asc (grpOf l r) := asc_filter (setL_asc _) _
theorem grp_head {r : Int} (hr : r ∈ reps l) : ∃ t, grpOf l r = r :: t := by
  obtain ⟨h1, h2⟩ := mem_reps.1 hr
  have hm : r ∈ grpOf l r := mem_grp.2 ⟨h1, .refl _⟩
  rcases hg : grpOf l r with _ | ⟨h, t⟩
  · rw [hg] at hm; cases hm
  · have hh : h ∈ grpOf l r := by rw [hg]; exact List.mem_cons_self ..
    obtain ⟨h3, h4⟩ := mem_grp.1 hh
    have h5 := h2 h h3 h4
    have ha := grp_asc l r
    rw [hg] at ha hm
    rcases List.mem_cons.1 hm with e | e
    · exact ⟨t, by rw [e]⟩
    · have := (List.pairwise_cons.1 ha).1 r e
      omega
theorem rep_of {x : Int} (hx : x ∈ setL (feats l)) : ∃ r ∈ reps l, Conn (Ed l) r x := by
  have hm : x ∈ grpOf l x := mem_grp.2 ⟨hx, .refl _⟩
  rcases hg : grpOf l x with _ | ⟨h, t⟩
  · rw [hg] at hm; cases hm
  · have hh : h ∈ grpOf l x := by rw [hg]; exact List.mem_cons_self ..
    obtain ⟨h3, h4⟩ := mem_grp.1 hh
    refine ⟨h, mem_reps.2 ⟨h3, fun y hy hc => ?_⟩, h4.symm⟩
    have hy' : y ∈ grpOf l x := mem_grp.2 ⟨hy, h4.trans hc⟩
    have ha := grp_asc l x
    rw [hg] at ha hy'
    rcases List.mem_cons.1 hy' with e | e
    · omega
    · have := (List.pairwise_cons.1 ha).1 y e
      omega
theorem rep_unique {r r' x : Int} (hr : r ∈ reps l) (hr' : r' ∈ reps l) (h : Conn (Ed l) r x) (h' : Conn (Ed l) r' x) : r = r' := by
  obtain ⟨h1, h2⟩ := mem_reps.1 hr
  obtain ⟨h3, h4⟩ := mem_reps.1 hr'
  have := h2 r' h3 (h.trans h'.symm)
  have := h4 r h1 (h'.trans h.symm)
  omega
end
def DisjL (gs : List (List Int)) : Prop := ∀ (n m : Nat) (z : Int), n < gs.length → m < gs.length → z ∈ gs[n]! → z ∈ gs[m]! → n = m
theorem cls_disj (l : List Cand) : DisjL (cls l) := by
  intro n m z hn hm h1 h2
  rw [cls_len] at hn hm
  rw [cls_get hn, mem_grp] at h1
  rw [cls_get hm, mem_grp] at h2
  have hn' : (reps l)[n]! ∈ reps l := getMem hn
  have hm' : (reps l)[m]! ∈ reps l := getMem hm
  have e := rep_unique hn' hm' h1.2 h2.2
  rw [getElem!_pos _ n hn, getElem!_pos _ m hm] at e
  have ha := List.pairwise_iff_getElem.1 (reps_asc l)
  rcases Nat.lt_trichotomy n m with h | h | h
  · have := ha n m hn hm h; omega
  · exact h
  · have := ha m n hm hn h; omega
theorem cls_few (l : List Cand) : (cls l).length ≤ l.length ∧ ∀ n : Nat, ((cls l)[n]!).length ≤ l.length := by
  have h0 := setL_len (feats l)
  rw [feats_len] at h0
  constructor
  · rw [cls_len]
    exact Nat.le_trans (List.length_filter_le _ _) h0
  · intro n
    rcases Nat.lt_or_ge n (cls l).length with h | h
    · rw [cls_get (by rw [← cls_len]; exact h)]
      exact Nat.le_trans (List.length_filter_le _ _) h0
    · rw [getElem!_neg (cls l) n (by omega)]; exact Nat.zero_le _
theorem cls_feats {l : List Cand} {n : Nat} {z : Int} (h : z ∈ (cls l)[n]!) : z ∈ feats l := by
  rcases Nat.lt_or_ge n (cls l).length with hn | hn
  · rw [cls_get (by rw [← cls_len]; exact hn), mem_grp] at h
    exact (setL_mem _ _).1 h.1
  · rw [getElem!_neg (cls l) n (by omega)] at h
    exact absurd h (by simp [default])
/-- the first k features of an order, cluster by cluster -/
def rowsK (gs : List (List Int)) (F : List Int) (k : Nat) : List (List Int) := gs.map fun g => (F.take k).filter fun z => decide (z ∈ g)
theorem rowsK_len (gs : List (List Int)) (F : List Int) (k : Nat) : (rowsK gs F k).length = gs.length := by simp [rowsK]
theorem rowsK_zero (gs : List (List Int)) (F : List Int) : rowsK gs F 0 = List.replicate gs.length [] := by
  unfold rowsK
  induction gs with
  | nil => rfl
  | cons g gs ih => rw [List.map_cons, ih]; simp [List.replicate_succ]
theorem rowsK_get {gs : List (List Int)} {F : List Int} {k n : Nat} (h : n < gs.length) : (rowsK gs F k)[n]! = (F.take k).filter fun z => decide (z ∈ gs[n]!) := by
  rw [getElem!_pos (rowsK gs F k) n (by rw [rowsK_len]; exact h), getElem!_pos gs n h]
  simp [rowsK]
theorem rowsK_row_len (gs : List (List Int)) (F : List Int) (k n : Nat) : (rowsK gs F k)[n]!.length ≤ F.length := by
  rcases Nat.lt_or_ge n gs.length with h | h
  · rw [rowsK_get h]
    refine Nat.le_trans (List.length_filter_le _ _) ?_
    rw [List.length_take]; omega
  · rw [getElem!_neg (rowsK gs F k) n (by rw [rowsK_len]; omega)]; exact Nat.zero_le _
theorem rowsK_none {gs : List (List Int)} {F : List Int} {k : Nat} (hk : k < F.length) (h : ∀ n, n < gs.length → F[k]! ∉ gs[n]!) : rowsK gs F (k + 1) = rowsK gs F k := by
  unfold rowsK
  apply List.map_congr_left
  intro g hg
  obtain ⟨n, hn, rfl⟩ := List.mem_iff_getElem.1 hg
  have := h n hn
  rw [getElem!_pos gs n hn, getElem!_pos F k hk] at this
  rw [List.take_succ_eq_append_getElem hk, List.filter_append, List.filter_cons_of_neg (by simpa using this)]
  simp
theorem rowsK_some {gs : List (List Int)} {F : List Int} {k n : Nat} (hk : k < F.length) (hn : n < gs.length) (hd : DisjL gs) (h : F[k]! ∈ gs[n]!) : rowsK gs F (k + 1) = (rowsK gs F k).set n ((rowsK gs F k)[n]! ++ [F[k]!]) := by
  apply List.ext_getElem
  · simp [rowsK_len]
  · intro m h1 h2
    rw [rowsK_len] at h1
    rw [List.getElem_set]
    have e1 : (rowsK gs F (k + 1))[m] = (F.take (k + 1)).filter fun z => decide (z ∈ gs[m]!) := by
      have := rowsK_get (F := F) (k := k + 1) h1
      rwa [getElem!_pos _ m (by rw [rowsK_len]; exact h1)] at this
    rw [e1, List.take_succ_eq_append_getElem hk, List.filter_append]
    split
    · rename_i e
      subst e
      rw [rowsK_get h1]
      congr 1
      rw [getElem!_pos F k hk] at h ⊢
      rw [List.filter_cons_of_pos (by simpa using h)]; rfl
    · rename_i e
      have hno : F[k] ∉ gs[m]! := fun hm => e (hd n m _ hn h1 (by rw [getElem!_pos F k hk] at h; exact h) hm)
      rw [List.filter_cons_of_neg (by simpa using hno)]
      have e2 : (rowsK gs F k)[m]'(by rw [rowsK_len]; exact h1) = (F.take k).filter fun z => decide (z ∈ gs[m]!) := by
        have := rowsK_get (F := F) (k := k) h1
        rwa [getElem!_pos _ m (by rw [rowsK_len]; exact h1)] at this
      rw [e2]; simp
/-- the order of each cluster -/
noncomputable def ownR (l : List Cand) (order : List Int) : List (List Int) := (cls l).map fun g => (distL order).filter fun z => decide (z ∈ g)
theorem rowsK_all (l : List Cand) (order : List Int) : rowsK (cls l) (distL order) (distL order).length = ownR l order := by
  unfold rowsK ownR
  rw [List.take_length]
def partL (l : List Cand) (steps : Int) (ids : List Int) : List Int := if ids.length ≤ 16 then (match exactL l ids steps with
  | some b => b
  | none => greedyL l ids) else greedyL l ids
noncomputable def bestR (l : List Cand) (order : List Int) (steps : Int) : List Int := (ownR l order).flatMap (partL l steps)
noncomputable def bestL (l : List Cand) (order : List Int) (steps : Int) : List Int := setL (bestR l order steps)
theorem exactL_feat {l : List Cand} {order b : List Int} {steps : Int} (h : exactL l order steps = some b) : ∀ x ∈ b, ∃ f ∈ order, okI l f x := by
  unfold exactL at h
  rcases ho : srch l (limN steps) (distL order) [] ⟨0, none⟩ with _ | y
  · rw [ho] at h; cases h
  · rw [ho] at h
    obtain ⟨b', hb, hf⟩ := srch_found ho
    injection h with h
    have h : setL (y.best.getD []) = b := h
    rw [← h, hb]
    intro x hx
    obtain ⟨d, e, hd⟩ := allC_mem _ _ _ hf.mem
    rw [Option.getD_some, setL_mem] at hx
    rw [List.nil_append] at e
    rw [e] at hx
    obtain ⟨f, h1, h2⟩ := hd x hx
    exact ⟨f, (distL_mem _ _).1 h1, h2⟩
theorem greedyL_feat (l : List Cand) (order : List Int) : ∀ x ∈ greedyL l order, ∃ f ∈ order, okI l f x := by
  intro x hx
  have hi := greedyL_in l order x hx
  rw [show greedyL l order = setL (greedyR l order) from rfl, setL_mem, ← grK_all] at hx
  have := grK_feat l (distL order) _ (Nat.le_refl _) x hx
  rw [List.take_length] at this
  exact ⟨_, (distL_mem _ _).1 this, hi, rfl⟩
theorem partL_feat (l : List Cand) (steps : Int) (ids : List Int) : ∀ x ∈ partL l steps ids, ∃ f ∈ ids, okI l f x := by
  unfold partL
  split
  · split
    · rename_i b hb
      exact exactL_feat hb
    · exact greedyL_feat l ids
  · exact greedyL_feat l ids
theorem partL_asc (l : List Cand) (steps : Int) (ids : List Int) : Asc (partL l steps ids) := by
  have hg : Asc (greedyL l ids) := setL_asc _
  unfold partL
  split
  · split
    · rename_i b hb
      unfold exactL at hb
      rcases ho : srch l (limN steps) (distL ids) [] ⟨0, none⟩ with _ | y
      · rw [ho] at hb; cases hb
      · rw [ho] at hb
        injection hb with hb
        have hb : setL (y.best.getD []) = b := hb
        rw [← hb]
        exact setL_asc _
    · exact hg
  · exact hg
theorem bestR_nodup (l : List Cand) (order : List Int) (steps : Int) : (bestR l order steps).Nodup := by
  unfold bestR List.Nodup
  rw [List.pairwise_flatMap]
  constructor
  · intro ids _
    exact (partL_asc l steps ids).imp fun {a b} h => by omega
  · rw [List.pairwise_iff_getElem]
    intro n m hn hm hnm x hx y hy e
    subst e
    have hL : (ownR l order).length = (cls l).length := by simp [ownR]
    have key : ∀ k (hk : k < (ownR l order).length), x ∈ partL l steps (ownR l order)[k] → ∃ f, f ∈ (cls l)[k]! ∧ okI l f x := by
      intro k hk hxk
      obtain ⟨f, h1, h2⟩ := partL_feat l steps _ x hxk
      simp only [ownR, List.getElem_map, List.mem_filter, decide_eq_true_iff] at h1
      refine ⟨f, ?_, h2⟩
      rw [getElem!_pos (cls l) k (by omega)]
      exact h1.2
    obtain ⟨f, a1, a2⟩ := key n hn hx
    obtain ⟨f', b1, b2⟩ := key m hm hy
    have := ok_inj a2 b2
    subst this
    have := cls_disj l n m f (by omega) (by omega) a1 b1
    omega
theorem bestL_sort (l : List Cand) (order : List Int) (steps : Int) : bestL l order steps = (bestR l order steps).mergeSort fun x y => decide (x ≤ y) := setL_nodup (bestR_nodup l order steps)
theorem flatMap_take_len {gs : List (List Int)} {f : List Int → List Int} {M k : Nat} (h : ∀ ids, (f ids).length ≤ M) : ((gs.take k).flatMap f).length ≤ k * M := by
  induction k generalizing gs with
  | zero => simp
  | succ k ih =>
    rcases gs with _ | ⟨g, gs⟩
    · simp
    · rw [List.take_succ_cons, List.flatMap_cons, List.length_append, Nat.succ_mul]
      have := h g
      have := ih (gs := gs)
      omega
theorem asc_len {xs : List Int} {n : Nat} (h : Asc xs) (hi : ∀ x ∈ xs, inB n x = true) : xs.length ≤ n := by
  have hs : xs.length = (xs.map Int.toNat).length := by simp
  rw [hs]
  have hnd : (xs.map Int.toNat).Nodup := by
    unfold List.Nodup
    rw [List.pairwise_map]
    refine h.imp_of_mem ?_
    intro a b ha hb hab
    have h1 := inB_iff.1 (hi a ha)
    have h2 := inB_iff.1 (hi b hb)
    omega
  have hsub : ∀ x ∈ xs.map Int.toNat, x ∈ List.range n := by
    intro x hx
    obtain ⟨y, hy, rfl⟩ := List.mem_map.1 hx
    have := inB_iff.1 (hi y hy)
    exact List.mem_range.2 (by omega)
  have := List.Nodup.length_le_of_subset hnd hsub
  simpa using this
theorem partL_len (l : List Cand) (steps : Int) (ids : List Int) : (partL l steps ids).length ≤ l.length :=
  asc_len (partL_asc l steps ids) fun x hx => by obtain ⟨f, _, h⟩ := partL_feat l steps ids x hx; exact h.1
end Go.Proofs
