/- Plain: the search does not depend on how the candidates are numbered. -/
import Derived.Test.YtaaejdhdkipdlaaXJ14
set_option linter.unusedVariables false
set_option linter.unusedSimpArgs false
namespace Go.Proofs
open Go.RowKit Go.Proofs.Mp Go.Proofs.Uf

/-- the list r is a part of l, in order: φ says where each stands; all of l's candidates of the features g are there -/
structure Part (l r : List Cand) (g : List Int) (φ : Int → Int) : Prop where
  inn : ∀ z, inB r.length z = true → inB l.length (φ z) = true ∧ l[(φ z).toNat]! = r[z.toNat]!
  mono : ∀ a b, inB r.length a = true → inB r.length b = true → a < b → φ a < φ b
  feat : ∀ z, inB r.length z = true → r[z.toNat]!.f ∈ g
  onto : ∀ z, inB l.length z = true → l[z.toNat]!.f ∈ g → ∃ a, inB r.length a = true ∧ φ a = z
section
variable {l r : List Cand} {g : List Int} {φ : Int → Int}
theorem Part.inj (h : Part l r g φ) {a b : Int} (ha : inB r.length a = true) (hb : inB r.length b = true) (e : φ a = φ b) : a = b := by
  rcases Int.lt_trichotomy a b with h1 | h1 | h1
  · have := h.mono a b ha hb h1; omega
  · exact h1
  · have := h.mono b a hb ha h1; omega
theorem Part.hit (h : Part l r g φ) {a b : Int} (ha : inB r.length a = true) (hb : inB r.length b = true) : hitI l (φ a) (φ b) = hitI r a b := by
  unfold hitI
  rw [(h.inn a ha).2, (h.inn b hb).2]
theorem Part.ok (h : Part l r g φ) {a f : Int} (ha : inB r.length a = true) : okI l f (φ a) ↔ okI r f a := by
  unfold okI
  rw [(h.inn a ha).2]
  exact ⟨fun q => ⟨ha, q.2⟩, fun q => ⟨(h.inn a ha).1, q.2⟩⟩
theorem Part.srt (h : Part l r g φ) {a b : Int} (ha : inB r.length a = true) (hb : inB r.length b = true) (hs : Go.Proofs.srt r a b) : Go.Proofs.srt l (φ a) (φ b) := by
  unfold Go.Proofs.srt coI at *
  rw [(h.inn a ha).2, (h.inn b hb).2]
  rcases hs with h1 | ⟨h1, h2⟩
  · exact .inl h1
  · exact .inr ⟨h1, h.mono a b ha hb h2⟩
theorem Part.ord (h : Part l r g φ) {f : Int} (hf : f ∈ g) : ordL l f = (ordL r f).map φ := by
  refine srt_unique (ordK_sorted l f _) ?_ fun z => ?_
  · rw [List.pairwise_map]
    refine (ordK_sorted r f _).imp_of_mem ?_
    intro a b ha hb hs
    exact h.srt (ordL_mem ha).1 (ordL_mem hb).1 hs
  · constructor
    · intro hz
      obtain ⟨h1, h2⟩ := ordL_mem hz
      obtain ⟨a, ha, rfl⟩ := h.onto z h1 (by rw [h2]; exact hf)
      exact List.mem_map.2 ⟨a, ordL_ok ((h.ok ha).1 ⟨h1, h2⟩), rfl⟩
    · intro hz
      obtain ⟨a, ha, rfl⟩ := List.mem_map.1 hz
      have hk := ordL_mem ha
      exact ordL_ok ((h.ok hk.1).2 hk)
theorem Part.fits (h : Part l r g φ) {now : List Int} {i : Int} (hn : ∀ z ∈ now, inB r.length z = true) (hi : inB r.length i = true) : fitsB l (now.map φ) (φ i) = fitsB r now i := by
  unfold fitsB
  rw [List.all_map]
  rw [Bool.eq_iff_iff, List.all_eq_true, List.all_eq_true]
  constructor
  · intro q z hz
    have := q z hz
    simp only [Function.comp] at this
    rwa [h.hit hi (hn z hz)] at this
  · intro q z hz
    simp only [Function.comp]
    rw [h.hit hi (hn z hz)]
    exact q z hz
def mapX (φ : Int → Int) (x : XS) : XS := ⟨x.made, x.best.map (List.map φ)⟩
theorem room_map (φ : Int → Int) (x : XS) (m : Nat) : roomB (mapX φ x) m = roomB x m := by
  unfold roomB mapX
  rcases x.best with _ | b
  · rfl
  · show decide ((b.map φ).length < m) = _
    rw [List.length_map]
theorem step_map (φ : Int → Int) (lim : Nat) (x : XS) : stepX lim (mapX φ x) = (stepX lim x).map (mapX φ) := by
  unfold stepX
  show (if x.made < lim then some (⟨x.made + 1, x.best.map (List.map φ)⟩ : XS) else none) = _
  split <;> rfl
theorem bind_map {α : Type} {φ : Int → Int} (o : Option XS) (F G : XS → Option XS) (h : ∀ x, F (mapX φ x) = (G x).map (mapX φ)) : (o.map (mapX φ)).bind F = (o.bind G).map (mapX φ) := by
  rcases o with _ | x
  · rfl
  · exact h x
theorem Part.fold (h : Part l r g φ) {lim n : Nat} {now : List Int} (hn : ∀ z ∈ now, inB r.length z = true) {F G : List Int → XS → Option XS}
    (hFG : ∀ i x, inB r.length i = true → F ((now ++ [i]).map φ) (mapX φ x) = (G (now ++ [i]) x).map (mapX φ)) :
    ∀ (O : List Int) (o : Option XS), (∀ z ∈ O, inB r.length z = true) → (O.map φ).foldl (tryS l lim F n (now.map φ)) (o.map (mapX φ)) = (O.foldl (tryS r lim G n now) o).map (mapX φ)
  | [], o, _ => rfl
  | i :: O, o, hO => by
    rw [List.map_cons, List.foldl_cons, List.foldl_cons]
    have hi := hO i List.mem_cons_self
    have e : tryS l lim F n (now.map φ) (o.map (mapX φ)) (φ i) = (tryS r lim G n now o i).map (mapX φ) := by
      unfold tryS
      rcases o with _ | x
      · rfl
      · show (if fitsB l (now.map φ) (φ i) = true ∧ roomB (mapX φ x) ((now.map φ).length + 1 + n) = true then (stepX lim (mapX φ x)).bind (F (now.map φ ++ [φ i])) else some (mapX φ x)) = (if fitsB r now i = true ∧ roomB x (now.length + 1 + n) = true then (stepX lim x).bind (G (now ++ [i])) else some x).map (mapX φ)
        rw [h.fits hn hi, room_map, List.length_map, step_map]
        split
        · rcases stepX lim x with _ | y
          · rfl
          · have := hFG i y hi
            rw [List.map_append] at this
            exact this
        · rfl
    rw [e]
    exact Part.fold h hn hFG O _ fun z hz => hO z (List.mem_cons_of_mem _ hz)
theorem Part.srch (h : Part l r g φ) (lim : Nat) : ∀ (fs now : List Int) (x : XS), (∀ f ∈ fs, f ∈ g) → (∀ z ∈ now, inB r.length z = true) → Go.Proofs.srch l lim fs (now.map φ) (mapX φ x) = (Go.Proofs.srch r lim fs now x).map (mapX φ)
  | [], now, x, _, _ => rfl
  | f :: fs, now, x, hfs, hn => by
    have ih := fun (c : List Int) (y : XS) (hc : ∀ z ∈ c, inB r.length z = true) => Part.srch h lim fs c y (fun f hf => hfs f (List.mem_cons_of_mem _ hf)) hc
    show ((ordL l f).foldl (tryS l lim (Go.Proofs.srch l lim fs) fs.length (now.map φ)) (some (mapX φ x))).bind (lastS lim (Go.Proofs.srch l lim fs) fs.length (now.map φ)) = (((ordL r f).foldl (tryS r lim (Go.Proofs.srch r lim fs) fs.length now) (some x)).bind (lastS lim (Go.Proofs.srch r lim fs) fs.length now)).map (mapX φ)
    rw [h.ord (hfs f List.mem_cons_self)]
    have e := Part.fold h (lim := lim) (n := fs.length) hn (F := Go.Proofs.srch l lim fs) (G := Go.Proofs.srch r lim fs) (fun i y hi => ih (now ++ [i]) y (fun z hz => by
      rcases List.mem_append.1 hz with hz | hz
      · exact hn z hz
      · rw [List.mem_singleton.1 hz]; exact hi)) (ordL r f) (some x) (fun z hz => (ordL_mem hz).1)
    rw [show (some x).map (mapX φ) = some (mapX φ x) from rfl] at e
    rw [e]
    rcases (ordL r f).foldl (tryS r lim (Go.Proofs.srch r lim fs) fs.length now) (some x) with _ | y
    · rfl
    · show (if roomB (mapX φ y) ((now.map φ).length + fs.length) = true then (stepX lim (mapX φ y)).bind (Go.Proofs.srch l lim fs (now.map φ)) else some (mapX φ y)) = (if roomB y (now.length + fs.length) = true then (stepX lim y).bind (Go.Proofs.srch r lim fs now) else some y).map (mapX φ)
      rw [room_map, List.length_map, step_map]
      split
      · rcases stepX lim y with _ | z
        · rfl
        · exact ih now z hn
      · rfl
theorem Part.set (h : Part l r g φ) {b : List Int} (hb : ∀ z ∈ b, inB r.length z = true) : setL (b.map φ) = (setL b).map φ := by
  refine Asc.unique (setL_asc _) ?_ fun x => ?_
  · show ((setL b).map φ).Pairwise (· < ·)
    rw [List.pairwise_map]
    exact (setL_asc b).imp_of_mem fun {a c} ha hc hac => h.mono a c (hb a ((setL_mem b a).1 ha)) (hb c ((setL_mem b c).1 hc)) hac
  · rw [setL_mem, List.mem_map, List.mem_map]
    exact ⟨fun ⟨a, h1, h2⟩ => ⟨a, (setL_mem b a).2 h1, h2⟩, fun ⟨a, h1, h2⟩ => ⟨a, (setL_mem b a).1 h1, h2⟩⟩
theorem found_in {F b : List Int} (h : Found l F b) : ∀ z ∈ b, inB l.length z = true := by
  obtain ⟨d, e, hd⟩ := allC_mem F [] b h.mem
  rw [List.nil_append] at e
  subst e
  intro z hz
  obtain ⟨f, _, hk⟩ := hd z hz
  exact hk.1
theorem Part.exact (h : Part l r g φ) {ids : List Int} (hg : ∀ f ∈ ids, f ∈ g) (steps : Int) : exactL l ids steps = (exactL r ids steps).map (List.map φ) := by
  unfold exactL
  have e := h.srch (limN steps) (distL ids) [] ⟨0, none⟩ (fun f hf => hg f ((distL_mem _ _).1 hf)) (fun z hz => by simp at hz)
  rw [show mapX φ ⟨0, none⟩ = ⟨0, none⟩ from rfl, List.map_nil] at e
  rw [e]
  rcases hs : Go.Proofs.srch r (limN steps) (distL ids) [] ⟨0, none⟩ with _ | y
  · rfl
  · obtain ⟨b, hb, hf⟩ := srch_found hs
    show some (setL (((y.best.map (List.map φ))).getD [])) = some ((setL (y.best.getD [])).map φ)
    rw [hb]
    show some (setL (b.map φ)) = _
    rw [h.set (found_in hf)]; rfl
theorem find_map {p : Int → Bool} {q : Int → Bool} : ∀ (O : List Int), (∀ z ∈ O, p (φ z) = q z) → (O.map φ).find? p = (O.find? q).map φ
  | [], _ => rfl
  | z :: O, hO => by
    rw [List.map_cons, List.find?_cons, List.find?_cons, hO z List.mem_cons_self]
    split
    · rfl
    · exact find_map O fun z hz => hO z (List.mem_cons_of_mem _ hz)
theorem Part.grK (h : Part l r g φ) {F : List Int} (hg : ∀ f ∈ F, f ∈ g) : ∀ k, k ≤ F.length → Go.Proofs.grK l F k = (Go.Proofs.grK r F k).map φ
  | 0, _ => rfl
  | k + 1, hk => by
    rw [grK_succ l (by omega), grK_succ r (by omega), Part.grK h hg k (by omega)]
    have hfk : F[k]! ∈ g := hg _ (getMem (by omega))
    unfold grStep
    rw [h.ord hfk, find_map (q := fitsB r (Go.Proofs.grK r F k)) _ (fun z hz => h.fits (grK_in r F k (by omega)) (ordL_mem hz).1)]
    rcases (ordL r F[k]!).find? (fitsB r (Go.Proofs.grK r F k)) with _ | i
    · rfl
    · show (Go.Proofs.grK r F k).map φ ++ [φ i] = _
      rw [List.map_append]; rfl
theorem Part.greedy (h : Part l r g φ) {ids : List Int} (hg : ∀ f ∈ ids, f ∈ g) : greedyL l ids = (greedyL r ids).map φ := by
  show setL (greedyR l ids) = (setL (greedyR r ids)).map φ
  rw [← grK_all, ← grK_all, h.grK (fun f hf => hg f ((distL_mem _ _).1 hf)) _ (Nat.le_refl _), h.set (grK_in r _ _ (Nat.le_refl _))]
theorem Part.part (h : Part l r g φ) {ids : List Int} (hg : ∀ f ∈ ids, f ∈ g) (steps : Int) : partL l steps ids = (partL r steps ids).map φ := by
  unfold partL
  rw [h.exact hg, h.greedy hg]
  split
  · rcases exactL r ids steps with _ | b
    · rfl
    · rfl
  · rfl
end
end Go.Proofs
/- Plain: what Best chooses in a cluster depends on this cluster alone. -/
set_option linter.unusedVariables false
set_option linter.unusedSimpArgs false
namespace Go.Proofs
open Go.RowKit Go.Proofs.Mp Go.Proofs.Uf

/-- the cluster with a feature (the last one; none: empty) -/
def lastWith (gs : List (List Int)) (f : Int) : List Int := gs.foldl (fun acc g => if f ∈ g then g else acc) []
/-- the places of the candidates of the features g -/
def wasL (l : List Cand) (g : List Int) (k : Nat) : List Int := ((List.range k).filter fun i : Nat => decide (l[i]!.f ∈ g)).map fun i : Nat => (i : Int)
def restL (l : List Cand) (g : List Int) : List Cand := l.filter fun c => decide (c.f ∈ g)
theorem wasL_mem {l : List Cand} {g : List Int} {k : Nat} {z : Int} : z ∈ wasL l g k ↔ ∃ i : Nat, i < k ∧ l[i]!.f ∈ g ∧ z = (i : Int) := by
  unfold wasL
  simp only [List.mem_map, List.mem_filter, List.mem_range, decide_eq_true_iff]
  constructor
  · rintro ⟨i, ⟨h1, h2⟩, rfl⟩; exact ⟨i, h1, h2, rfl⟩
  · rintro ⟨i, h1, h2, rfl⟩; exact ⟨i, ⟨h1, h2⟩, rfl⟩
theorem wasL_asc (l : List Cand) (g : List Int) (k : Nat) : Asc (wasL l g k) := by
  show (wasL l g k).Pairwise (· < ·)
  unfold wasL
  rw [List.pairwise_map]
  exact (List.pairwise_lt_range.filter _).imp fun {a b} h => by omega
theorem wasL_succ (l : List Cand) (g : List Int) (k : Nat) : wasL l g (k + 1) = wasL l g k ++ (if l[k]!.f ∈ g then [(k : Int)] else []) := by
  unfold wasL
  rw [List.range_succ, List.filter_append, List.map_append]
  congr 1
  by_cases h : l[k]!.f ∈ g
  · rw [if_pos h, List.filter_cons_of_pos (by simpa using h)]; rfl
  · rw [if_neg h, List.filter_cons_of_neg (by simpa using h)]; rfl
theorem restL_succ {l : List Cand} (g : List Int) {k : Nat} (h : k < l.length) : restL (l.take (k + 1)) g = restL (l.take k) g ++ (if l[k]!.f ∈ g then [l[k]!] else []) := by
  unfold restL
  rw [List.take_succ_eq_append_getElem h, List.filter_append, getElem!_pos l k h]
  congr 1
  by_cases hf : l[k].f ∈ g
  · rw [if_pos hf, List.filter_cons_of_pos (by simpa using hf)]; rfl
  · rw [if_neg hf, List.filter_cons_of_neg (by simpa using hf)]; rfl
theorem rest_was {l : List Cand} (g : List Int) : ∀ k, k ≤ l.length → restL (l.take k) g = (wasL l g k).map fun z => l[z.toNat]!
  | 0, _ => by simp [restL, wasL]
  | k + 1, h => by
    rw [restL_succ g (by omega), wasL_succ, List.map_append, rest_was g k (by omega)]
    congr 1
    split
    · simp
    · rfl
theorem rest_all (l : List Cand) (g : List Int) : restL l g = (wasL l g l.length).map fun z => l[z.toNat]! := by
  have := rest_was (l := l) g l.length (Nat.le_refl _)
  rwa [List.take_length] at this
theorem part_of (l : List Cand) (g : List Int) : Part l (restL l g) g (fun z => (wasL l g l.length)[z.toNat]!) := by
  have hlen : (restL l g).length = (wasL l g l.length).length := by rw [rest_all, List.length_map]
  have hget : ∀ n, n < (wasL l g l.length).length → (restL l g)[n]! = l[((wasL l g l.length)[n]!).toNat]! := fun n hn => by
    rw [getElem!_pos (restL l g) n (by omega), getElem!_pos _ n hn]
    simp only [rest_all, List.getElem_map]
  have hin : ∀ n, n < (wasL l g l.length).length → inB l.length (wasL l g l.length)[n]! = true ∧ l[((wasL l g l.length)[n]!).toNat]!.f ∈ g := fun n hn => by
    obtain ⟨i, h1, h2, h3⟩ := wasL_mem.1 (getMem hn)
    rw [h3]
    exact ⟨inB_iff.2 ⟨by omega, by omega⟩, by simpa using h2⟩
  refine ⟨fun z hz => ?_, fun a b ha hb hab => ?_, fun z hz => ?_, fun z hz hf => ?_⟩
  · obtain ⟨n, rfl, hn⟩ := inB_nat hz
    rw [hlen] at hn
    simp only [Int.toNat_natCast]
    exact ⟨(hin n hn).1, (hget n hn).symm⟩
  · obtain ⟨n, rfl, hn⟩ := inB_nat ha
    obtain ⟨m, rfl, hm⟩ := inB_nat hb
    rw [hlen] at hn hm
    simp only [Int.toNat_natCast]
    have := (List.pairwise_iff_getElem.1 (wasL_asc l g l.length)) n m hn hm (by omega)
    rwa [getElem!_pos _ n hn, getElem!_pos _ m hm]
  · obtain ⟨n, rfl, hn⟩ := inB_nat hz
    rw [hlen] at hn
    rw [Int.toNat_natCast, hget n hn]
    exact (hin n hn).2
  · obtain ⟨n, rfl, hn⟩ := inB_nat hz
    have hm : (n : Int) ∈ wasL l g l.length := wasL_mem.2 ⟨n, hn, by simpa using hf, rfl⟩
    obtain ⟨k, hk, he⟩ := List.mem_iff_getElem.1 hm
    refine ⟨(k : Int), inB_iff.2 ⟨by omega, by omega⟩, ?_⟩
    simp only [Int.toNat_natCast]
    rw [getElem!_pos _ k hk]
    exact he
theorem lastWith_spec {gs : List (List Int)} (f : Int) (hd : DisjL gs) : (lastWith gs f = [] ∧ ∀ n, n < gs.length → f ∉ gs[n]!) ∨ ∃ n, n < gs.length ∧ f ∈ gs[n]! ∧ lastWith gs f = gs[n]! := by
  have key : ∀ k, k ≤ gs.length → ((gs.take k).foldl (fun acc g => if f ∈ g then g else acc) [] = [] ∧ ∀ n, n < k → f ∉ gs[n]!) ∨ ∃ n, n < k ∧ f ∈ gs[n]! ∧ (gs.take k).foldl (fun acc g => if f ∈ g then g else acc) [] = gs[n]! := by
    intro k
    induction k with
    | zero => intro _; exact .inl ⟨rfl, fun n hn => by omega⟩
    | succ k ih =>
      intro h
      rw [foldl_take_succ _ _ _ _ (show k < gs.length by omega)]
      by_cases hf : f ∈ gs[k]!
      · rw [if_pos hf]
        exact .inr ⟨k, by omega, hf, rfl⟩
      · rw [if_neg hf]
        rcases ih (by omega) with ⟨h1, h2⟩ | ⟨n, h1, h2, h3⟩
        · refine .inl ⟨h1, fun n hn => ?_⟩
          rcases Nat.lt_succ_iff_lt_or_eq.1 hn with h3 | rfl
          · exact h2 n h3
          · exact hf
        · exact .inr ⟨n, by omega, h2, h3⟩
  have := key gs.length (Nat.le_refl _)
  rw [List.take_length] at this
  exact this
/-- the candidates of one cluster make one cluster -/
theorem cls_rest {l : List Cand} {n : Nat} (hn : n < (cls l).length) : cls (restL l (cls l)[n]!) = [(cls l)[n]!] := by
  have hn' : n < (reps l).length := by rw [← cls_len]; exact hn
  obtain ⟨g, hg⟩ : ∃ g, (cls l)[n]! = g := ⟨_, rfl⟩
  obtain ⟨r0, hr0⟩ : ∃ r0, (reps l)[n]! = r0 := ⟨_, rfl⟩
  have hgr : g = grpOf l r0 := by rw [← hg, cls_get hn', hr0]
  have hrm : r0 ∈ reps l := by rw [← hr0]; exact getMem hn'
  rw [hg]
  have hP := part_of l g
  -- the features of the rest
  have hfe : ∀ z, z ∈ feats (restL l g) ↔ z ∈ g := by
    intro z
    constructor
    · intro hz
      obtain ⟨c, hc, rfl⟩ := List.mem_map.1 hz
      unfold restL at hc
      simpa using (List.mem_filter.1 hc).2
    · intro hz
      have hf : z ∈ feats l := cls_feats (by rw [hg]; exact hz)
      obtain ⟨c, hc, rfl⟩ := List.mem_map.1 hf
      exact List.mem_map.2 ⟨c, List.mem_filter.2 ⟨hc, by simpa using hz⟩, rfl⟩
  have hasc : Asc g := by rw [hgr]; exact grp_asc l r0
  have hset : setL (feats (restL l g)) = g := setL_lit _ _ hasc hfe
  -- links
  have hed : ∀ x y, Ed l x y → x ∈ g → Conn (Ed (restL l g)) x y ∧ y ∈ g := by
    rintro x y ⟨i, j, hi, hj, hh, rfl, rfl⟩ hx
    have hy : l[j]!.f ∈ g := by
      rw [hgr, mem_grp] at hx ⊢
      exact ⟨(setL_mem _ _).2 (feats_get hj), hx.2.trans (.edge ⟨i, j, hi, hj, hh, rfl, rfl⟩ (.refl _))⟩
    obtain ⟨a, ha, hae⟩ := hP.onto (i : Int) (inB_iff.2 ⟨by omega, by omega⟩) (by simpa using hx)
    obtain ⟨b, hb, hbe⟩ := hP.onto (j : Int) (inB_iff.2 ⟨by omega, by omega⟩) (by simpa using hy)
    have hab := hP.hit ha hb
    rw [hae, hbe] at hab
    have h1 : okI (restL l g) l[i]!.f a := ⟨ha, by have := (hP.inn a ha).2; rw [hae] at this; rw [← this]; simp⟩
    have h2 : okI (restL l g) l[j]!.f b := ⟨hb, by have := (hP.inn b hb).2; rw [hbe] at this; rw [← this]; simp⟩
    exact ⟨hit_conn h1 h2 (by rw [← hab]; simpa [hitI] using hh), hy⟩
  have hcn : ∀ x y, Conn (Ed l) x y → x ∈ g → Conn (Ed (restL l g)) x y ∧ y ∈ g := by
    intro x y h
    induction h with
    | refl x => exact fun hx => ⟨.refl _, hx⟩
    | edge e _ ih =>
      intro hx
      obtain ⟨h1, h2⟩ := hed _ _ e hx
      obtain ⟨h3, h4⟩ := ih h2
      exact ⟨h1.trans h3, h4⟩
    | back e _ ih =>
      intro hx
      obtain ⟨i, j, hi, hj, hh, e1, e2⟩ := e
      obtain ⟨h1, h2⟩ := hed _ _ ⟨j, i, hj, hi, by rw [hitB_comm]; exact hh, e2, e1⟩ hx
      obtain ⟨h3, h4⟩ := ih h2
      exact ⟨h1.trans h3, h4⟩
  have hr0g : r0 ∈ g := by rw [hgr, mem_grp]; exact ⟨(mem_reps.1 hrm).1, .refl _⟩
  have hall : ∀ x ∈ g, Conn (Ed (restL l g)) r0 x := fun x hx => by
    have hx' := hx
    rw [hgr, mem_grp] at hx'
    exact (hcn r0 x hx'.2 hr0g).1
  have hreps : reps (restL l g) = [r0] := Asc.unique (reps_asc _) (by simp [Asc]) fun y => by
    rw [List.mem_singleton]
    constructor
    · intro hy
      obtain ⟨h1, h2⟩ := mem_reps.1 hy
      rw [hset] at h1 h2
      have h3 := h2 r0 hr0g (hall y h1).symm
      have h4 := (mem_reps.1 hrm).2 y ((setL_mem _ _).2 (cls_feats (by rw [hg]; exact h1))) (by rw [hgr, mem_grp] at h1; exact h1.2)
      omega
    · rintro rfl
      refine mem_reps.2 ⟨by rw [hset]; exact hr0g, fun y hy _ => ?_⟩
      rw [hset] at hy
      exact (mem_reps.1 hrm).2 y ((setL_mem _ _).2 (cls_feats (by rw [hg]; exact hy))) (by rw [hgr, mem_grp] at hy; exact hy.2)
  rw [cls_eq, hreps]
  show [grpOf (restL l g) r0] = [g]
  congr 1
  refine Asc.unique (grp_asc _ _) hasc fun x => ?_
  rw [mem_grp, hset]
  exact ⟨fun h => h.1, fun h => ⟨h, hall x h⟩⟩
theorem set_nil : setL [] = [] := setL_lit _ _ (by simp [Asc]) (fun x => Iff.rfl)
theorem cls_nil : cls [] = [] := by
  unfold cls clS
  rw [show setL (feats []) = [] from set_nil]
  rfl
/-- the law -/
theorem apart_eq (l : List Cand) (order : List Int) (f : Int) (steps : Int) :
    (bestL (restL l (lastWith (cls l) f)) order steps).map (fun z => (wasL l (lastWith (cls l) f) l.length)[z.toNat]!) = (bestL l order steps).filter fun z => decide (l[z.toNat]!.f ∈ lastWith (cls l) f) := by
  rcases lastWith_spec f (cls_disj l) with ⟨h1, _⟩ | ⟨n, hn, _, hg⟩
  · rw [h1]
    have e1 : restL l [] = [] := by unfold restL; simp
    rw [e1]
    have e2 : bestL ([] : List Cand) order steps = [] := by
      unfold bestL bestR ownR
      rw [cls_nil]
      exact set_nil
    rw [e2]
    simp
  · rw [hg]
    obtain ⟨g, hgg⟩ : ∃ g, (cls l)[n]! = g := ⟨_, rfl⟩
    have hP := part_of l g
    have hids : (ownR l order)[n]! = (distL order).filter fun z => decide (z ∈ g) := by rw [ownR_get hn, hgg]
    have hsub : ∀ z ∈ (distL order).filter (fun z => decide (z ∈ g)), z ∈ g := fun z hz => by simpa using (List.mem_filter.1 hz).2
    have hcr : cls (restL l g) = [g] := by rw [← hgg]; exact cls_rest hn
    rw [hgg]
    have e1 : bestL (restL l g) order steps = partL (restL l g) steps ((distL order).filter fun z => decide (z ∈ g)) := by
      unfold bestL bestR ownR
      rw [hcr]
      simp only [List.map_cons, List.map_nil, List.flatMap_cons, List.flatMap_nil, List.append_nil]
      exact Asc.unique (setL_asc _) (partL_asc _ _ _) fun x => setL_mem _ x
    rw [e1, ← hP.part hsub steps]
    refine Asc.unique (partL_asc _ _ _) ((setL_asc _).filter _) fun x => ?_
    rw [List.mem_filter, decide_eq_true_iff, show bestL l order steps = setL (bestR l order steps) from rfl, setL_mem, bestR_mem, ← hids]
    constructor
    · intro hx
      obtain ⟨f', h3, h4⟩ := partL_feat l steps _ x hx
      refine ⟨⟨n, hn, hx⟩, ?_⟩
      rw [h4.2, ← hgg]
      exact ((ownR_mem hn).1 h3).2
    · rintro ⟨⟨m, hm, hx⟩, hxg⟩
      obtain ⟨f', h3, h4⟩ := partL_feat l steps _ x hx
      rw [h4.2, ← hgg] at hxg
      have := cls_disj l m n f' hm hn ((ownR_mem hm).1 h3).2 hxg
      subst this
      exact hx
end Go.Proofs
/- The law on clusters apart. -/
set_option linter.unusedVariables false
set_option linter.unusedSimpArgs false
namespace Go.Proofs
open Go.RowKit Go.Proofs.Mp Go.Proofs.Uf Go.Maps

theorem Try.infoC : (Try.prog.info? 45).map (fun i => (i.zero, i.size, i.bytes)) = some (some (.agg #[.int .i64 0, .int .i64 0, .int .i64 0, .int .i64 0, .int .i64 0, .int .i64 0, .int .i64 0, .int .i64 0]), 8, 64) := by kernel_rfl
theorem encC_one (x : Cand) : ∀ u ∈ encC x, u.oneCell' = true := by
  intro u hu
  simp only [encC, List.mem_cons, List.not_mem_nil, or_false] at hu
  rcases hu with rfl | rfl | rfl | rfl | rfl | rfl | rfl | rfl <;> rfl
theorem slC_of {w : World} {base : Nat} {v : Value} {xs : List Cand} (h : Own 45 8 encC w base v xs) : SlC w v xs := by
  obtain ⟨A, c, rfl⟩ := Own.slice h
  refine ⟨A, c, rfl, ?_, Own.rd encC_len h⟩
  rcases h.2 with ⟨he, h0⟩ | ⟨g, cap, cur, he, _, _, hnc, _⟩
  · omega
  · injection he with _ _ he
    omega
theorem two_types {W : World} {lo lo' : Nat} {v u : Value} {xs : List Cand} {ys : List Int} (h : Own 45 8 encC W lo v xs) (g : OwnI 3 W lo' u ys) : (v.ownBlock = none ∨ v.ownBlock ≠ u.ownBlock) ∧ (u.ownBlock = none ∨ u.ownBlock ≠ v.ownBlock) := by
  rcases h.2 with ⟨rfl, _⟩ | ⟨a, _, _, rfl, _, ha, _⟩
  · refine ⟨.inl rfl, ?_⟩
    rcases hu : u.ownBlock with _ | j
    · exact .inl rfl
    · exact .inr (by simp [Value.ownBlock])
  · rcases g.2 with ⟨rfl, _⟩ | ⟨b, _, _, rfl, _, hb, _⟩
    · exact ⟨.inr (by simp [Value.ownBlock]), .inl rfl⟩
    · have hne : a ≠ b := by
        rintro rfl
        have := ha.symm.trans hb
        injection this with this
        injection this with _ this
        exact absurd this (by decide)
      exact ⟨.inr (by simpa [Value.ownBlock] using hne), .inr (by simpa [Value.ownBlock] using Ne.symm hne)⟩
/-- the value is a slice that reads as g -/
def Gr (W : World) (v : Value) (g : List Int) : Prop := ∃ A c, v = .slice A g.length c ∧ RdI W A g
theorem Gr.below {W W' : World} {v : Value} {g : List Int} (h : Gr W v g) (hb : Below W.heap.size W W') : Gr W' v g := by
  obtain ⟨A, c, h1, h2⟩ := h
  exact ⟨A, c, h1, h2.below hb⟩
theorem Gr.has {W : World} {v : Value} {g : List Int} (h : Gr W v g) (hl : g.length ≤ 1000) (x : Int) {b : Bool} (hb : decide (x ∈ g) = b) : Calls Try.prog 25 #[v, .int .i64 x] W (RetV W (.bool b)) := by
  subst hb
  obtain ⟨A, c, rfl, hR⟩ := h
  exact ref_has A c x g W (by omega) hR
def lastK (gs : List (List Int)) (f : Int) (k : Nat) : List Int := (gs.take k).foldl (fun acc g => if f ∈ g then g else acc) []
theorem lastK_succ {gs : List (List Int)} {f : Int} {k : Nat} (h : k < gs.length) : lastK gs f (k + 1) = if f ∈ gs[k]! then gs[k]! else lastK gs f k := foldl_take_succ _ _ _ _ h
theorem lastK_all (gs : List (List Int)) (f : Int) : lastK gs f gs.length = lastWith gs f := by unfold lastK lastWith; rw [List.take_length]
theorem lastK_len {gs : List (List Int)} {f : Int} {M : Nat} (h : ∀ n : Nat, (gs[n]!).length ≤ M) : ∀ k, k ≤ gs.length → (lastK gs f k).length ≤ M
  | 0, _ => by simp [lastK]
  | k + 1, hk => by
    rw [lastK_succ (by omega)]
    split
    · exact h k
    · exact lastK_len h k (by omega)
theorem filter_step {p : Int → Bool} {xs : List Int} {k : Nat} (h : k < xs.length) : (xs.take (k + 1)).filter p = (xs.take k).filter p ++ (if p xs[k]! = true then [xs[k]!] else []) := filter_take_succ p xs k h
theorem map_step {p : Int → Int} {xs : List Int} {k : Nat} (h : k < xs.length) : (xs.take (k + 1)).map p = (xs.take k).map p ++ [p xs[k]!] := by
  rw [List.take_succ_eq_append_getElem h, List.map_append, getElem!_pos xs k h]; rfl
theorem bestL_in (l : List Cand) (order : List Int) (steps : Int) : ∀ x ∈ bestL l order steps, inB l.length x = true := fun x hx => by
  obtain ⟨n, hn, hx⟩ := bestR_mem.1 ((setL_mem _ _).1 hx)
  obtain ⟨f, _, h⟩ := partL_feat l steps _ _ hx
  exact h.1
theorem wfs_rest {l : List Cand} (g : List Int) (h : wfs (feats l)) : wfs (feats (restL l g)) := by
  intro x hx
  obtain ⟨c, hc, rfl⟩ := List.mem_map.1 hx
  exact h _ (List.mem_map.2 ⟨c, (List.mem_filter.1 hc).1, rfl⟩)
theorem was_len (l : List Cand) (g : List Int) (k : Nat) : (wasL l g k).length ≤ k := by
  unfold wasL
  rw [List.length_map]
  refine Nat.le_trans (List.length_filter_le _ _) ?_
  simp
theorem rest_len (l : List Cand) (g : List Int) : (restL l g).length = (wasL l g l.length).length := by rw [rest_all, List.length_map]
set_option maxRecDepth 100000 in
set_option maxHeartbeats 20000000 in
theorem law_apart (u v : Value) (l : List Cand) (order : List Int) (ft st : Int) (w : World) (hl : SlC w u l) (ho : SlI w v order) (hwf : wfs (feats l)) (hwo : wfs order) (hft : (Lit.int .i64 ft).wf = true) (hst : (Lit.int .u16 st).wf = true) :
    Calls Try.prog 10 #[u, v, .int .i64 ft, .int .u16 st] w (RetV w (.bool true)) := by
  have hl0 := hl
  obtain ⟨A, ca, rfl, hca, hR0⟩ := hl0
  clear hR0
  have k0 : Below w.heap.size w w := Below.refl _ _
  have hn := SlI.nil0 w
  rcases hq : (decide (l.length ≤ 20) && decide (order.length ≤ 20) && decide (([] : List Int).length ≤ 20) && decide (([] : List Int).length ≤ 20)) with _ | _
  · have hq0 := hq
    clear hq0
    go_enter Try.func10, Try.ntmps10
    go_wp2_with fail
    refine (k_light (r := false) hl ho hn hn hq).mono ?_
    rintro e w1 ⟨rfl, hb1⟩
    have k1 := k0.trans (hb1.mono k0.size)
    replace hl := hl.below hb1
    replace ho := ho.below hb1
    replace hn := hn.below hb1
    clear k0 hb1
    go_wp2_with fail
    refine (law_awake w1).mono ?_
    rintro e w2 ⟨rfl, hb2⟩
    have k2 := k1.trans (hb2.mono k1.size)
    replace hl := hl.below hb2
    replace ho := ho.below hb2
    replace hn := hn.below hb2
    clear k1 hb2
    go_wp2
    go_ret
    exact RetV.bool rfl k2
  · have hq1 := hq
    simp only [Bool.and_eq_true, decide_eq_true_iff] at hq1
    obtain ⟨⟨⟨q1, q2⟩, q3⟩, q4⟩ := hq1
    go_enter Try.func10, Try.ntmps10
    go_wp2_with fail
    refine (k_light (r := true) hl ho hn hn hq).mono ?_
    rintro e w1 ⟨rfl, hb1⟩
    have k1 := k0.trans (hb1.mono k0.size)
    replace hl := hl.below hb1
    replace ho := ho.below hb1
    replace hn := hn.below hb1
    clear k0 hb1
    clear hq
    have hl9 := hl
    have hm1 := Int.tmod_lt_of_pos (wrap64 st) (show (0 : Int) < 3000 by decide)
    have hm2 := Int.lt_tmod_of_pos (wrap64 st) (show (0 : Int) < 3000 by decide)
    go_wp2_with fail
    generalize (wrap64 st).tmod 3000 = n at *
    obtain ⟨A', ca', e', hca', hR'⟩ := hl9
    injection e' with e1 e2 e3
    subst e1; subst e3
    refine (clusters_any A ca l w1 hca' (by omega) hR' hwf).mono ?_
    rintro e w2 ⟨v1, rfl, hN, hb2⟩
    have hG : GrpS w2 v1 (cls l) := hN.grpS
    have kw1 := Lib.hid k1
    have HR := Lib.hid hR'
    have k2 : Below w1.heap.size w1 w2 := hb2
    clear k1 hb2 hN
    clear hn
    obtain ⟨A1, c1, ls, rfl, _⟩ := id hG
    have HG := Lib.hid hG
    clear hG hR'
    have HFW := Lib.hid (cls_few l).2
    have hfew := (cls_few l).1
    have hbase := k2.size
    go_wp2_with fail
    go_loopw [11, 12] (fun c i wr => ∃ k : Nat, k ≤ (cls l).length ∧ i = .int .i64 k ∧ Gr wr c (lastK (cls l) ft k) ∧ Below w1.heap.size w1 wr ∧ Below w2.heap.size w2 wr) (fun _ i _ => (cls l).length - (intOf i).toNat)
    case atStart => exact ⟨0, Nat.zero_le _, rfl, ⟨none, 0, rfl, Rd.nil _⟩, k2, Below.refl _ _⟩
    case round =>
      clear k2
      obtain ⟨k, hk, rfl, hgr, hbw, hbx⟩ := hrel
      by_cases hlt : k < (cls l).length
      · have hd : decide ((k : Int) < ((cls l).length : Int)) = true := decide_eq_true (by omega)
        have hd1 : decide (k < (cls l).length) = true := decide_eq_true hlt
        obtain ⟨bg, offg, ni, ci, hA1, hbg, hcg, hRg⟩ := GrpS.get HG.out hbx hlt
        subst hA1
        have HSU := Lib.hid (lastK_succ (f := ft) hlt)
        have hgl := HFW.out k
        obtain ⟨gk, hgk⟩ : ∃ gk, (cls l)[k]! = gk := ⟨_, rfl⟩
        rw [hgk] at hcg hRg HSU hgl
        have HGK := Lib.hid hRg
        have HCG := Lib.hid hcg
        clear hgk hRg
        obtain ⟨AG, cG, rfl, hRG⟩ := hgr
        by_cases hm : ft ∈ gk
        · have CH := Lib.hid (Gr.has (⟨ni, ci, rfl, HGK.out⟩ : Gr wr (.slice ni gk.length ci) gk) (by omega) ft (b := true) (by simpa using hm))
          have HE : Hid (lastK (cls l) ft (k + 1) = gk) := Lib.hid (by rw [HSU.out, if_pos hm])
          clear hm
          go_wp2_with fail
          refine CH.out.mono ?_
          rintro e w3 ⟨rfl, hb3⟩
          have hc3 : w3.cell? ⟨bg, offg + k, none⟩ = some (.slice ni gk.length ci) := (hb3.cell (p := ⟨bg, offg + k, none⟩) (World.block_lt_of_cell? wr _ HCG.out)).trans HCG.out
          have hbw3 := hbw.trans (hb3.mono hbw.size)
          have hbx3 := hbx.trans (hb3.mono hbx.size)
          have hR3 := HGK.out.below hb3
          clear hcg CH hb3 hRG
          go_wp2
          go_roundw
          case rel => exact ⟨k + 1, by omega, by go_num, by rw [HE.out]; exact ⟨ni, ci, rfl, hR3⟩, hbw3, hbx3⟩
          case measure => simp [intOf]; omega
        · have CH := Lib.hid (Gr.has (⟨ni, ci, rfl, HGK.out⟩ : Gr wr (.slice ni gk.length ci) gk) (by omega) ft (b := false) (by simpa using hm))
          have HE : Hid (lastK (cls l) ft (k + 1) = lastK (cls l) ft k) := Lib.hid (by rw [HSU.out, if_neg hm])
          have HGR := Lib.hid (⟨AG, cG, rfl, hRG⟩ : Gr wr (.slice AG (lastK (cls l) ft k).length cG) (lastK (cls l) ft k))
          clear hm hRG
          go_wp2_with fail
          refine CH.out.mono ?_
          rintro e w3 ⟨rfl, hb3⟩
          have hbw3 := hbw.trans (hb3.mono hbw.size)
          have hbx3 := hbx.trans (hb3.mono hbx.size)
          have hR3 := Gr.below HGR.out hb3
          clear hcg CH hb3
          go_wp2
          go_roundw
          case rel => exact ⟨k + 1, by omega, by go_num, by rw [HE.out]; exact hR3, hbw3, hbx3⟩
          case measure => simp [intOf]; omega
      · obtain rfl : k = (cls l).length := by omega
        have hd : decide (((cls l).length : Int) < ((cls l).length : Int)) = false := decide_eq_false (by omega)
        have hd1 : decide ((cls l).length < (cls l).length) = false := decide_eq_false (by omega)
        have hgl := lastK_len (f := ft) HFW.out _ (Nat.le_refl (cls l).length)
        rw [lastK_all] at hgr hgl
        have HAP := Lib.hid (apart_eq l order ft n)
        generalize lastWith (cls l) ft = g at *
        clear hbx HG
        generalize wr = w3 at *
        have hw3 := hbw.size
        obtain ⟨iC, hiC, hzC0, hzC1, hzC2⟩ := Mp.info_parts Try.infoC
        obtain ⟨i0, hi, hz0, hz1, hz2⟩ := Mp.info_parts Try.infoI
        have HGR := Lib.hid (fun (W : World) (hW : Below w3.heap.size w3 W) => hgr.below hW)
        obtain ⟨AG, cG, rfl, _⟩ := hgr
        have HWR := Lib.hid (wfs_rest g hwf)
        go_wp2_with fail
        go_loopw [13, 14, 15] (fun cr cw i wr => ∃ k : Nat, k ≤ l.length ∧ i = .int .i64 k ∧ Own 45 8 encC wr w3.heap.size cr (restL (l.take k) g) ∧ OwnI 3 wr w3.heap.size cw (wasL l g k) ∧ Below w3.heap.size w3 wr) (fun _ _ i _ => l.length - (intOf i).toNat)
        case atStart => exact ⟨0, Nat.zero_le _, rfl, by simpa [restL] using Own.nil (e := 45) (k := 8) (enc := encC) w3 w3.heap.size, by simpa [wasL] using Own.nil (e := 3) (k := 1) (enc := Mp.encI) w3 w3.heap.size, Below.refl _ _⟩
        case round =>
          obtain ⟨k, hk, rfl, hrest, hwas, hbx⟩ := hrel
          have hszx := hbx.size
          by_cases hlt : k < l.length
          · have hd : decide ((k : Int) < (l.length : Int)) = true := decide_eq_true (by omega)
            have hd1 : decide (k < l.length) = true := decide_eq_true hlt
            obtain ⟨b, off, hA0, hb, c0, c1, c2, c3, c4, c5, c6, c7⟩ := RdC.get HR.out (hbw.trans (hbx.mono hw3)) hlt
            subst hA0
            have HRS := Lib.hid (restL_succ g hlt)
            have HWS := Lib.hid (wasL_succ l g k)
            have hwl := was_len l g k
            have hrl : (restL (l.take k) g).length ≤ k := by unfold restL; exact Nat.le_trans (List.length_filter_le _ _) (by simp; omega)
            obtain ⟨x, hx⟩ : ∃ x, l[k]! = x := ⟨_, rfl⟩
            rw [hx] at c0 c1 c2 c3 c4 c5 c6 c7 HRS HWS
            clear hx
            generalize restL (l.take k) g = rs at *
            generalize wasL l g k = ws at *
            have HCELL : Hid (∀ W, Below wr.heap.size wr W → W.cell? ⟨b, off + k * 8, none⟩ = some (.int .i64 x.f) ∧ W.cell? ⟨b, off + k * 8 + 1, none⟩ = some (.int .i64 x.x0) ∧ W.cell? ⟨b, off + k * 8 + 2, none⟩ = some (.int .i64 x.y0) ∧ W.cell? ⟨b, off + k * 8 + 3, none⟩ = some (.int .i64 x.x1) ∧ W.cell? ⟨b, off + k * 8 + 4, none⟩ = some (.int .i64 x.y1) ∧ W.cell? ⟨b, off + k * 8 + 5, none⟩ = some (.int .i64 x.ax) ∧ W.cell? ⟨b, off + k * 8 + 6, none⟩ = some (.int .i64 x.ay) ∧ W.cell? ⟨b, off + k * 8 + 7, none⟩ = some (.int .i64 x.co)) := Lib.hid (fun W hW => by
              have hbl : b < wr.heap.size := World.block_lt_of_cell? wr _ c0
              exact ⟨(hW.cell (p := ⟨b, off + k * 8, none⟩) hbl).trans c0, (hW.cell (p := ⟨b, off + k * 8 + 1, none⟩) hbl).trans c1, (hW.cell (p := ⟨b, off + k * 8 + 2, none⟩) hbl).trans c2, (hW.cell (p := ⟨b, off + k * 8 + 3, none⟩) hbl).trans c3, (hW.cell (p := ⟨b, off + k * 8 + 4, none⟩) hbl).trans c4, (hW.cell (p := ⟨b, off + k * 8 + 5, none⟩) hbl).trans c5, (hW.cell (p := ⟨b, off + k * 8 + 6, none⟩) hbl).trans c6, (hW.cell (p := ⟨b, off + k * 8 + 7, none⟩) hbl).trans c7⟩)
            clear c1 c2 c3 c4 c5 c6 c7
            by_cases hm : x.f ∈ g
            · have CH := Lib.hid ((HGR.out wr hbx).has (by omega) x.f (b := true) (by simpa using hm))
              rw [if_pos hm] at HRS HWS
              clear hm
              go_wp2_with fail
              refine CH.out.mono ?_
              rintro e w4 ⟨rfl, hb4⟩
              obtain ⟨d0, d1, d2, d3, d4, d5, d6, d7⟩ := HCELL.out w4 hb4
              have hbx4 := hbx.trans (hb4.mono hszx)
              have hsz4 := hbx4.size
              have hr4 : OwnA 45 8 encC w4 w3.heap.size (fun _ => False) _ rs := ⟨Own.below hrest hb4, fun _ _ h => h⟩
              have HW4 := Lib.hid (Own.below hwas hb4)
              obtain ⟨A1, k1c, rfl⟩ := Own.slice hrest
              obtain ⟨A2, k2c, rfl⟩ := Own.slice hwas
              have HT4 := Lib.hid (two_types hr4.1 HW4.out)
              clear c0 CH hb4 hbx hrest hwas hszx
              go_wp2_with (first
                | (at_builtin; refine Mp.OwnA.append1 (enc := encC) 22 iC (.agg #[.int .i64 0, .int .i64 0, .int .i64 0, .int .i64 0, .int .i64 0, .int .i64 0, .int .i64 0, .int .i64 0]) 64 Try.underlying22 hiC hzC0 hzC1 hzC2 rfl (by decide) (by decide) encC_len x (encC_one _) rfl _ _ rfl hr4 (fun j hj => hj.elim) rfl rfl (by omega) hsz4 ?_; (intro v5 w5 hown5 hg5 hloc5); (have hw5 : OwnA 3 1 Mp.encI w5 w3.heap.size (fun _ => False) _ ws := ⟨World.ownsRow.kept HW4.out hg5 HT4.out.2, fun _ _ h => h⟩); (have hbx5 := hbx4.grown hg5 hsz4 (fun j hj => (hr4.lt hj).1)); (have hsz5 := hbx5.size); clear hr4)
                | (at_builtin; refine Mp.OwnA.append1 (enc := Mp.encI) 23 i0 (.int .i64 0) 8 Try.underlying23 hi hz0 hz1 hz2 rfl (by decide) (by decide) encI_len (k : Int) (encI_one _) rfl _ _ rfl hw5 (fun j hj => hj.elim) rfl rfl (by omega) hsz5 ?_; (intro v6 w6 hown6 hg6 hloc6)))
              have hr6 := World.ownsRow.kept hown5.1 hg6 (two_types hown5.1 hw5.1).1
              have hbx6 := hbx5.grown hg6 hsz5 (fun j hj => (hw5.lt hj).1)
              go_roundw
              case rel => exact ⟨k + 1, by omega, by go_num, by rw [HRS.out]; exact hr6, by rw [HWS.out]; exact hown6.1, hbx6⟩
              case measure => simp [intOf]; omega
            · have CH := Lib.hid ((HGR.out wr hbx).has (by omega) x.f (b := false) (by simpa using hm))
              rw [if_neg hm, List.append_nil] at HRS HWS
              clear hm
              go_wp2_with fail
              refine CH.out.mono ?_
              rintro e w4 ⟨rfl, hb4⟩
              have hbx4 := hbx.trans (hb4.mono hszx)
              have hr4 := Own.below hrest hb4
              have hw4 := Own.below hwas hb4
              clear c0 CH hb4 hbx hrest hwas hszx
              go_wp2
              go_roundw
              case rel => exact ⟨k + 1, by omega, by go_num, by rw [HRS.out]; exact hr4, by rw [HWS.out]; exact hw4, hbx4⟩
              case measure => simp [intOf]; omega
          · obtain rfl : k = l.length := by omega
            have hd : decide ((l.length : Int) < (l.length : Int)) = false := decide_eq_false (by omega)
            have hd1 : decide (l.length < l.length) = false := decide_eq_false (by omega)
            rw [List.take_length] at hrest
            have HRL := Lib.hid (rest_len l g)
            have HWL := Lib.hid (was_len l g l.length)
            have hrs := slC_of hrest
            obtain ⟨A1, k1c, rfl⟩ := Own.slice hrest
            obtain ⟨A2, k2c, rfl⟩ := Own.slice hwas
            have hbw5 := hbw.trans (hbx.mono hw3)
            have HG5 := Lib.hid (fun (W : World) (hW : Below wr.heap.size wr W) => HGR.out W (hbx.trans (hW.mono hszx)))
            have HRS := Lib.hid (fun (W : World) (hW : Below wr.heap.size wr W) => hrs.below hW)
            have HWS := Lib.hid (fun (W : World) (hW : Below wr.heap.size wr W) => (Own.rd encI_len (Own.below hwas hW)))
            clear hrest hwas hrs HGR hbx
            generalize wr = w5 at *
            have hbl := bestL_len l order n
            have HIN := Lib.hid (bestL_in l order n)
            obtain ⟨al, hal⟩ : ∃ al, bestL l order n = al := ⟨_, rfl⟩
            rw [hal] at HAP hbl HIN
            go_wp2_with fail
            refine (k_best (hl.below hbw5) (ho.below hbw5) (by omega) (by omega) hwf hwo hal).mono ?_
            rintro e w6 ⟨vA, rfl, hA, hb6⟩
            clear hal
            obtain ⟨AA, cA, rfl, hcA, hRA⟩ := hA
            have HRA := Lib.hid (fun (W : World) (hW : Below w6.heap.size w6 W) => (hRA.below hW : RdI W AA al))
            have hbw6 := hbw5.trans (hb6.mono hbw5.size)
            have hsz6 := hbw6.size
            have HG6 := Lib.hid (fun (W : World) (hW : Below w6.heap.size w6 W) => HG5.out W (hb6.trans (hW.mono hb6.size)))
            have HRS6 := Lib.hid (fun (W : World) (hW : Below w6.heap.size w6 W) => HRS.out W (hb6.trans (hW.mono hb6.size)))
            have HWS6 := Lib.hid (fun (W : World) (hW : Below w6.heap.size w6 W) => HWS.out W (hb6.trans (hW.mono hb6.size)))
            clear HG5 HRS HWS hb6 hRA
            go_wp2_with fail
            go_loopw [16, 18] (fun c i wr => ∃ k : Nat, k ≤ al.length ∧ i = .int .i64 k ∧ OwnI 3 wr w6.heap.size c ((al.take k).filter fun z => decide (l[z.toNat]!.f ∈ g)) ∧ Below w6.heap.size w6 wr) (fun _ i _ => al.length - (intOf i).toNat)
            case atStart => exact ⟨0, Nat.zero_le _, rfl, Own.nil _ _, Below.refl _ _⟩
            case round =>
              obtain ⟨k, hk, rfl, hown, hbx⟩ := hrel
              by_cases hlt : k < al.length
              · have hd : decide ((k : Int) < (al.length : Int)) = true := decide_eq_true (by omega)
                have hd1 : decide (k < al.length) = true := decide_eq_true hlt
                obtain ⟨n1, hn1, hn1l⟩ := inB_nat (HIN.out _ (getMem hlt))
                obtain ⟨bA, offA, hAA, hbA, gA⟩ := RdI.get (HRA.out wr hbx) (Below.refl _ _) hlt
                subst hAA
                have HFS0 := filter_step (p := fun z => decide (l[z.toNat]!.f ∈ g)) hlt
                rw [hn1] at gA HFS0
                obtain ⟨fy, hfy⟩ : ∃ fy, decide (l[((n1 : Nat) : Int).toNat]!.f ∈ g) = fy := ⟨_, rfl⟩
                have HFS0 : ((al.take (k + 1)).filter fun z => decide (l[z.toNat]!.f ∈ g)) = ((al.take k).filter fun z => decide (l[z.toNat]!.f ∈ g)) ++ (if decide (l[((n1 : Nat) : Int).toNat]!.f ∈ g) = true then [(n1 : Int)] else []) := HFS0
                rw [hfy] at HFS0
                have HFS := Lib.hid HFS0
                rw [Int.toNat_natCast] at hfy
                obtain ⟨b, off, hA0, hb, c0, c1, c2, c3, c4, c5, c6, c7⟩ := RdC.get HR.out (hbw6.trans (hbx.mono hsz6)) hn1l
                subst hA0
                obtain ⟨y, hy⟩ : ∃ y, l[n1]!.f = y := ⟨_, rfl⟩
                rw [hy] at c0 hfy
                have hfl := List.length_filter_le (fun z => decide (l[z.toNat]!.f ∈ g)) (al.take k)
                have htl : (al.take k).length ≤ al.length := by simp; omega
                generalize (al.take k).filter (fun z => decide (l[z.toNat]!.f ∈ g)) = acc at *
                have h01 : decide ((n1 : Int) < 0) = false := decide_eq_false (by omega)
                have h02 : ¬ ((n1 : Int) < 0) := by omega
                have h03 : decide ((l.length : Int) ≤ (n1 : Int)) = false := decide_eq_false (by omega)
                have h04 : ¬ ((l.length : Int) ≤ (n1 : Int)) := by omega
                have HAC := Lib.hid gA
                clear c1 c2 c3 c4 c5 c6 c7 hn1 hy HFS0
                by_cases hm : y ∈ g
                · have CH := Lib.hid ((HG6.out wr hbx).has (by omega) y (b := true) (by simpa using hm))
                  rw [← hfy, decide_eq_true hm, if_pos rfl] at HFS
                  clear hm hfy
                  go_wp2_with fail
                  refine CH.out.mono ?_
                  rintro e w7 ⟨rfl, hb7⟩
                  have g7 : w7.cell? ⟨bA, offA + k, none⟩ = some (.int .i64 (n1 : Int)) := (hb7.cell (p := ⟨bA, offA + k, none⟩) (World.block_lt_of_cell? wr _ HAC.out)).trans HAC.out
                  have hown7 := Own.below hown hb7
                  have hbx7 := hbx.trans (hb7.mono hbx.size)
                  have hs7 := hbx7.size
                  clear gA c0 CH hown hb7 hbx
                  go_wp2_with (at_builtin; refine Try.appI hown7 (n1 : Int) rfl _ _ rfl rfl rfl (by omega) hs7 ?_; clear hown7; intro v8 w8 hown8 hb8)
                  go_roundw
                  case rel => exact ⟨k + 1, by omega, by go_num, by rw [HFS.out]; exact hown8, hbx7.trans hb8⟩
                  case measure => simp [intOf]; omega
                · have CH := Lib.hid ((HG6.out wr hbx).has (by omega) y (b := false) (by simpa using hm))
                  rw [← hfy, decide_eq_false hm, if_neg (by simp), List.append_nil] at HFS
                  clear hm hfy
                  go_wp2_with fail
                  refine CH.out.mono ?_
                  rintro e w7 ⟨rfl, hb7⟩
                  have hown7 := Own.below hown hb7
                  have hbx7 := hbx.trans (hb7.mono hbx.size)
                  clear gA c0 CH hown hb7 hbx
                  go_wp2
                  go_roundw
                  case rel => exact ⟨k + 1, by omega, by go_num, by rw [HFS.out]; exact hown7, hbx7⟩
                  case measure => simp [intOf]; omega
              · obtain rfl : k = al.length := by omega
                have hd : decide ((al.length : Int) < (al.length : Int)) = false := decide_eq_false (by omega)
                have hd1 : decide (al.length < al.length) = false := decide_eq_false (by omega)
                rw [List.take_length, ← HAP.out] at hown
                clear HRA HIN HAP
                have hbw7 := hbw6.trans (hbx.mono hsz6)
                have HWS7 := Lib.hid (fun (W : World) (hW : Below wr.heap.size wr W) => HWS6.out W (hbx.trans (hW.mono hbx.size)))
                have hrs7 := HRS6.out wr hbx
                clear hbx HG6 HRS6 HWS6
                generalize wr = w7 at *
                have hsz7 := hbw7.size
                have hbl2 := bestL_len (restL l g) order n
                have hrl9 : (restL l g).length ≤ 1000 := by have h1 := HRL.out; have h2 := HWL.out; omega
                have HIN := Lib.hid (bestL_in (restL l g) order n)
                obtain ⟨bl2, hbl2e⟩ : ∃ bl2, bestL (restL l g) order n = bl2 := ⟨_, rfl⟩
                rw [hbl2e] at hown hbl2 HIN
                rw [HRL.out] at HIN
                have hA1 : (restL l g).length ≤ 1000 := by have h1 := HRL.out; have h2 := HWL.out; omega
                have hA2 : order.length ≤ 1000 := by omega
                have hA3 : SlI w7 v order := ho.below hbw7
                have hA4 : SlC w7 (.slice A1 (restL l g).length k1c) (restL l g) := hrs7
                have CB := Lib.hid (k_best (l := restL l g) (order := order) (steps := n) hA4 hA3 hA1 hA2 HWR.out hwo hbl2e)
                clear hA1 hA2 hA3 hA4
                have HWANT := Lib.hid hown
                clear hbl2e hrs7 hown
                go_wp2_with fail
                refine CB.out.mono ?_
                rintro e w8 ⟨vB, rfl, hB, hb8⟩
                obtain ⟨AB, cB, rfl, hcB, hRB⟩ := hB
                have HRB := Lib.hid (fun (W : World) (hW : Below w8.heap.size w8 W) => (hRB.below hW : RdI W AB bl2))
                have HWANT8 := Lib.hid (Own.below HWANT.out hb8)
                have HWS8 := Lib.hid (fun (W : World) (hW : Below w8.heap.size w8 W) => HWS7.out W (hb8.trans (hW.mono hb8.size)))
                have hbw8 := hbw7.trans (hb8.mono hsz7)
                have hsz8 := hbw8.size
                obtain ⟨ws, hws⟩ : ∃ ws, wasL l g l.length = ws := ⟨_, rfl⟩
                rw [hws] at HWS8 HIN HWANT8 HRL HWL ⊢
                rw [HRL.out]
                clear HWS7 HWANT hb8 hRB CB hws
                go_wp2_with fail
                go_loopw [19, 21] (fun c i wr => ∃ k : Nat, k ≤ bl2.length ∧ i = .int .i64 k ∧ OwnI 3 wr w8.heap.size c ((bl2.take k).map fun z => ws[z.toNat]!) ∧ Below w8.heap.size w8 wr) (fun _ i _ => bl2.length - (intOf i).toNat)
                case atStart => exact ⟨0, Nat.zero_le _, rfl, Own.nil _ _, Below.refl _ _⟩
                case round =>
                  obtain ⟨k, hk, rfl, hown, hbx⟩ := hrel
                  by_cases hlt : k < bl2.length
                  · have hd : decide ((k : Int) < (bl2.length : Int)) = true := decide_eq_true (by omega)
                    have hd1 : decide (k < bl2.length) = true := decide_eq_true hlt
                    obtain ⟨n1, hn1, hn1l⟩ := inB_nat (HIN.out _ (getMem hlt))
                    obtain ⟨bA, offA, hAA, hbA, gA⟩ := RdI.get (HRB.out wr hbx) (Below.refl _ _) hlt
                    subst hAA
                    obtain ⟨bW, offW, hAW, hbW, gW⟩ := RdI.get (HWS8.out wr hbx) (Below.refl _ _) hn1l
                    subst hAW
                    have HFS0 := map_step (p := fun z => ws[z.toNat]!) hlt
                    rw [hn1] at gA HFS0
                    have HFS0 : ((bl2.take (k + 1)).map fun z => ws[z.toNat]!) = ((bl2.take k).map fun z => ws[z.toNat]!) ++ [ws[n1]!] := HFS0
                    have HFS := Lib.hid HFS0
                    clear HFS0
                    have hml : ((bl2.take k).map fun z => ws[z.toNat]!).length ≤ bl2.length := by simp; omega
                    generalize (bl2.take k).map (fun z => ws[z.toNat]!) = acc at *
                    obtain ⟨y, hy⟩ : ∃ y, ws[n1]! = y := ⟨_, rfl⟩
                    rw [hy] at gW HFS
                    have h01 : decide ((n1 : Int) < 0) = false := decide_eq_false (by omega)
                    have h02 : ¬ ((n1 : Int) < 0) := by omega
                    have h03 : decide ((ws.length : Int) ≤ (n1 : Int)) = false := decide_eq_false (by omega)
                    have h04 : ¬ ((ws.length : Int) ≤ (n1 : Int)) := by omega
                    have hs9 := hbx.size
                    clear hn1 hy
                    go_wp2_with (at_builtin; refine Try.appI hown y rfl _ _ rfl rfl rfl (by omega) hs9 ?_; clear hown; intro v9 w9 hown9 hb9)
                    go_roundw
                    case rel => exact ⟨k + 1, by omega, by go_num, by rw [HFS.out]; exact hown9, hbx.trans hb9⟩
                    case measure => simp [intOf]; omega
                  · obtain rfl : k = bl2.length := by omega
                    have hd : decide ((bl2.length : Int) < (bl2.length : Int)) = false := decide_eq_false (by omega)
                    have hd1 : decide (bl2.length < bl2.length) = false := decide_eq_false (by omega)
                    rw [List.take_length] at hown
                    have hgot := Mp.OwnI.sl2 hown
                    have hwant := (Mp.OwnI.sl2 HWANT8.out).below hbx
                    have hbw9 := hbw8.trans (hbx.mono hsz8)
                    have hml : (bl2.map fun z => ws[z.toNat]!).length ≤ 1000000 := by simp; omega
                    generalize bl2.map (fun z => ws[z.toNat]!) = res at *
                    clear hown hbx HWANT8
                    go_wp2_with fail
                    refine (law_awake wr).mono ?_
                    rintro e w10 ⟨rfl, hb10⟩
                    have hgot2 := hgot.below hb10
                    have hwant2 := hwant.below hb10
                    have hbw10 := hbw9.trans (hb10.mono hbw9.size)
                    clear hgot hwant hb10 hbw9
                    go_wp2_with fail
                    refine (k_same (b := true) hgot2 hwant2 hml hml (by simp)).mono ?_
                    rintro e w11 ⟨rfl, hb11⟩
                    have hbw11 := hbw10.trans (hb11.mono hbw10.size)
                    clear hgot2 hwant2 hb11 hbw10
                    go_wp2
                    go_ret
                    exact RetV.bool rfl (kw1.out.trans (hbw11.mono kw1.out.size))
end Go.Proofs
