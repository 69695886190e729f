/- Plain: a finite one-to-one partial function, given as pairs, and its chains. No program is named here. -/
import Derived.RowKit
set_option linter.unusedVariables false
set_option linter.unusedSimpArgs false
namespace Go.Proofs.Mp

/-- what follows an edge -/
def nx (S : List (Nat × Nat)) (e : Nat) : Option Nat := (S.find? fun p => p.1 == e).map Prod.snd
structure Inj (S : List (Nat × Nat)) : Prop where
  f : (S.map Prod.fst).Nodup
  t : (S.map Prod.snd).Nodup
theorem nx_mem {S : List (Nat × Nat)} (h : Inj S) {e k : Nat} : nx S e = some k ↔ (e, k) ∈ S := by
  have hf := h.f
  clear h
  induction S with
  | nil => simp [nx]
  | cons p S ih =>
    rw [List.map_cons, List.nodup_cons] at hf
    unfold nx at *
    rw [List.find?_cons]
    by_cases hp : p.1 = e
    · have hb : (p.1 == e) = true := by simp [hp]
      rw [hb]
      constructor
      · intro hk
        obtain rfl : p.2 = k := by simpa using hk
        subst hp
        exact List.mem_cons_self
      · intro hm
        rcases List.mem_cons.1 hm with rfl | hm
        · rfl
        · exact absurd (by rw [hp]; exact List.mem_map.2 ⟨_, hm, rfl⟩) hf.1
    · have hb : (p.1 == e) = false := by simp [hp]
      rw [hb]
      dsimp only
      refine (ih hf.2).trans ?_
      constructor
      · intro hm; exact List.mem_cons_of_mem _ hm
      · intro hm
        rcases List.mem_cons.1 hm with rfl | hm
        · exact absurd rfl hp
        · exact hm
theorem nx_inj {S : List (Nat × Nat)} (h : Inj S) {a b k : Nat} (ha : nx S a = some k) (hb : nx S b = some k) : a = b := by
  rw [nx_mem h] at ha hb
  obtain ⟨i, hi, ei⟩ := List.mem_iff_getElem.1 ha
  obtain ⟨j, hj, ej⟩ := List.mem_iff_getElem.1 hb
  have key : ∀ i j, (hi : i < S.length) → (hj : j < S.length) → i < j → S[i].2 ≠ S[j].2 := by
    intro i j hi hj hij
    have := List.pairwise_iff_getElem.1 h.t i j (by simpa using hi) (by simpa using hj) hij
    simpa using this
  have hij : i = j := by
    rcases Nat.lt_trichotomy i j with g | g | g
    · exact absurd (by rw [ei, ej]) (key i j hi hj g)
    · exact g
    · exact absurd (by rw [ei, ej]) (key j i hj hi g)
  subst hij
  rw [ei] at ej
  exact congrArg Prod.fst ej
theorem nodup_sub_len : ∀ {a b : List Nat}, a.Nodup → (∀ x ∈ a, x ∈ b) → a.length ≤ b.length
  | [], _, _, _ => Nat.zero_le _
  | x :: a, b, hn, hs => by
    rw [List.nodup_cons] at hn
    have hx := hs x List.mem_cons_self
    have := nodup_sub_len (b := b.erase x) hn.2 fun y hy => by
      have hyx : y ≠ x := fun h => hn.1 (by rw [← h]; exact hy)
      rw [List.mem_erase_of_ne hyx]
      exact hs y (List.mem_cons_of_mem _ hy)
    rw [List.length_erase_of_mem hx] at this
    have := List.length_pos_of_mem hx
    rw [List.length_cons]
    omega
def ran (S : List (Nat × Nat)) (e : Nat) : Bool := S.any fun p => p.2 == e
theorem ran_iff {S : List (Nat × Nat)} (h : Inj S) {e : Nat} : ran S e = true ↔ ∃ a, nx S a = some e := by
  unfold ran
  rw [List.any_eq_true]
  constructor
  · rintro ⟨⟨a, b⟩, hp, hb⟩
    obtain rfl : b = e := by simpa using hb
    exact ⟨a, (nx_mem h).2 hp⟩
  · rintro ⟨a, ha⟩
    exact ⟨(a, e), (nx_mem h).1 ha, by simp⟩

/-- j steps -/
def itr (S : List (Nat × Nat)) (e : Nat) : Nat → Option Nat
  | 0 => some e
  | j + 1 => (itr S e j).bind (nx S)
theorem itr_succ {S : List (Nat × Nat)} {e j k : Nat} : itr S e (j + 1) = some k ↔ ∃ c, itr S e j = some c ∧ nx S c = some k := by
  rw [show itr S e (j + 1) = (itr S e j).bind (nx S) from rfl, Option.bind_eq_some_iff]
theorem itr_le {S : List (Nat × Nat)} {e : Nat} : ∀ {j k}, itr S e j = some k → ∀ i, i ≤ j → ∃ c, itr S e i = some c
  | 0, k, h, i, hi => by obtain rfl : i = 0 := by omega
                         exact ⟨_, h⟩
  | j + 1, k, h, i, hi => by
    rcases Nat.lt_or_ge i (j + 1) with g | g
    · obtain ⟨c, hc, _⟩ := itr_succ.1 h
      exact itr_le hc i (by omega)
    · obtain rfl : i = j + 1 := by omega
      exact ⟨_, h⟩
theorem itr_add {S : List (Nat × Nat)} {e i : Nat} {c : Nat} (h : itr S e i = some c) : ∀ j, itr S e (i + j) = itr S c j
  | 0 => h
  | j + 1 => by
    rw [← Nat.add_assoc]
    unfold itr
    rw [itr_add h j]
/-- the way back is one -/
theorem itr_back {S : List (Nat × Nat)} (hS : Inj S) {a b : Nat} : ∀ {j k}, itr S a j = some k → itr S b j = some k → a = b
  | 0, k, ha, hb => by
    unfold itr at ha hb
    injection ha with ha
    injection hb with hb
    exact ha.trans hb.symm
  | j + 1, k, ha, hb => by
    obtain ⟨c, hc, hk⟩ := itr_succ.1 ha
    obtain ⟨d, hd, hk'⟩ := itr_succ.1 hb
    have := nx_inj hS hk hk'
    subst this
    exact itr_back hS hc hd
/-- as long as the way does not come home, it meets no edge twice -/
theorem itr_apart {S : List (Nat × Nat)} (hS : Inj S) {e n : Nat} (hn : ∀ i, 1 ≤ i → i ≤ n → itr S e i ≠ some e) {i j c : Nat} (hij : i < j) (hj : j ≤ n) (h1 : itr S e i = some c) (h2 : itr S e j = some c) : False := by
  obtain ⟨d, rfl⟩ : ∃ d, j = d + i := ⟨j - i, by omega⟩
  obtain ⟨x, hx⟩ := itr_le h2 d (by omega)
  have h3 := itr_add hx i
  rw [h2] at h3
  have := itr_back hS h1 h3.symm
  subst this
  exact hn d (by omega) (by omega) hx
/-- a way with n steps and no home is no longer than the list -/
theorem itr_short {S : List (Nat × Nat)} (hS : Inj S) {e n k : Nat} (hk : itr S e n = some k) (hn : ∀ i, 1 ≤ i → i < n → itr S e i ≠ some e) : n ≤ S.length := by
  have hall : ∀ i, i < n → ∃ c d, itr S e i = some c ∧ (c, d) ∈ S := by
    intro i hi
    obtain ⟨d, hd⟩ := itr_le hk (i + 1) (by omega)
    obtain ⟨c, hc, hcd⟩ := itr_succ.1 hd
    exact ⟨c, d, hc, (nx_mem hS).1 hcd⟩
  have hlen : ((List.range n).map fun i => (itr S e i).getD 0).length ≤ (S.map Prod.fst).length := by
    apply nodup_sub_len
    · rw [List.Nodup, List.pairwise_map, List.pairwise_iff_getElem]
      intro a b ha hb hlt hab
      rw [List.length_range] at ha hb
      rw [List.getElem_range, List.getElem_range] at hab
      obtain ⟨c, _, hc, _⟩ := hall a ha
      obtain ⟨d, _, hd, _⟩ := hall b hb
      rw [hc, hd] at hab
      dsimp only [Option.getD_some] at hab
      subst hab
      exact (itr_apart hS (n := n - 1) (fun i h1 h2 => hn i h1 (by omega)) hlt (by omega) hc hd).elim
    · intro x hx
      rw [List.mem_map] at hx
      obtain ⟨i, hi, rfl⟩ := hx
      obtain ⟨c, d, hc, hm⟩ := hall i (List.mem_range.1 hi)
      rw [hc]
      exact List.mem_map.2 ⟨_, hm, rfl⟩
  simpa using hlen
end Go.Proofs.Mp
/- Plain: the chains of a one-to-one partial function. No program is named here. -/
set_option linter.unusedVariables false
set_option linter.unusedSimpArgs false
namespace Go.Proofs.Mp

/-- the way of a chain behind c, until it ends or comes home to e -/
def walkF (S : List (Nat × Nat)) (e : Nat) : Nat → Nat → List Nat
  | 0, _ => []
  | f + 1, c => match nx S c with
    | none => []
    | some k => if k = e then [k] else k :: walkF S e f k
def chain (S : List (Nat × Nat)) (e : Nat) : List Nat := e :: walkF S e (S.length + 1) e
def wayL (S : List (Nat × Nat)) (e j : Nat) : List Nat := (List.range (j + 1)).map fun i => (itr S e i).getD 0
def NoHome (S : List (Nat × Nat)) (e j : Nat) : Prop := ∀ i, 1 ≤ i → i ≤ j → itr S e i ≠ some e
theorem wayL_len (S : List (Nat × Nat)) (e j : Nat) : (wayL S e j).length = j + 1 := by simp [wayL]
theorem wayL_zero (S : List (Nat × Nat)) (e : Nat) : wayL S e 0 = [e] := rfl
theorem wayL_succ (S : List (Nat × Nat)) (e j : Nat) : wayL S e (j + 1) = wayL S e j ++ [(itr S e (j + 1)).getD 0] := by
  unfold wayL
  rw [List.range_succ, List.map_append]
  rfl
theorem wayL_next {S : List (Nat × Nat)} {e j c k : Nat} (hc : itr S e j = some c) (hk : nx S c = some k) : wayL S e (j + 1) = wayL S e j ++ [k] := by
  rw [wayL_succ, (itr_succ (k := k)).2 ⟨c, hc, hk⟩]
  rfl
theorem wayL_get {S : List (Nat × Nat)} {e j i : Nat} (h : i ≤ j) : (wayL S e j)[i]? = some ((itr S e i).getD 0) := by
  unfold wayL
  rw [List.getElem?_map, List.getElem?_range (by omega)]
  rfl
theorem wayL_mem {S : List (Nat × Nat)} {e j c : Nat} (hc : itr S e j = some c) {x : Nat} : x ∈ wayL S e j ↔ ∃ i, i ≤ j ∧ itr S e i = some x := by
  unfold wayL
  rw [List.mem_map]
  constructor
  · rintro ⟨i, hi, rfl⟩
    rw [List.mem_range] at hi
    obtain ⟨d, hd⟩ := itr_le hc i (by omega)
    exact ⟨i, by omega, by rw [hd]; rfl⟩
  · rintro ⟨i, hi, hx⟩
    exact ⟨i, List.mem_range.2 (by omega), by rw [hx]; rfl⟩
/-- where a chain stands after j steps -/
theorem chain_at {S : List (Nat × Nat)} {e : Nat} : ∀ {j c}, itr S e j = some c → NoHome S e j → j ≤ S.length + 1 → chain S e = wayL S e j ++ walkF S e (S.length + 1 - j) c
  | 0, c, hc, hn, hj => by
    unfold itr at hc
    injection hc with hc
    subst hc
    rfl
  | j + 1, c, hc, hn, hj => by
    obtain ⟨b, hb, hbc⟩ := itr_succ.1 hc
    rw [chain_at hb (fun i h1 h2 => hn i h1 (by omega)) (by omega), wayL_next hb hbc, show S.length + 1 - j = (S.length + 1 - (j + 1)) + 1 by omega]
    have hce : c ≠ e := fun h => hn (j + 1) (by omega) (Nat.le_refl _) (by rw [hc, h])
    rw [walkF, hbc]
    dsimp only
    rw [if_neg hce, List.append_assoc]
    rfl
theorem nohome_len {S : List (Nat × Nat)} (hS : Inj S) {e j c : Nat} (hc : itr S e j = some c) (hn : NoHome S e j) : j ≤ S.length := itr_short hS hc fun i h1 h2 => hn i h1 (by omega)
/-- the chain ends -/
theorem chain_end {S : List (Nat × Nat)} (hS : Inj S) {e j c : Nat} (hc : itr S e j = some c) (hn : NoHome S e j) (hk : nx S c = none) : chain S e = wayL S e j := by
  have hl := nohome_len hS hc hn
  rw [chain_at hc hn (by omega), show S.length + 1 - j = (S.length - j) + 1 by omega]
  rw [walkF, hk, List.append_nil]
/-- the chain comes home -/
theorem chain_home {S : List (Nat × Nat)} (hS : Inj S) {e j c : Nat} (hc : itr S e j = some c) (hn : NoHome S e j) (hk : nx S c = some e) : chain S e = wayL S e (j + 1) := by
  have hl := nohome_len hS hc hn
  rw [chain_at hc hn (by omega), show S.length + 1 - j = (S.length - j) + 1 by omega, wayL_next hc hk]
  rw [walkF, hk]
  dsimp only
  rw [if_pos rfl]
/-- every chain ends in one of the two ways -/
theorem chain_cases {S : List (Nat × Nat)} (hS : Inj S) (e : Nat) : ∃ j c, itr S e j = some c ∧ NoHome S e j ∧ j ≤ S.length ∧ (nx S c = none ∨ nx S c = some e) := by
  have key : ∀ d j c, itr S e j = some c → NoHome S e j → j + d = S.length + 1 → ∃ j c, itr S e j = some c ∧ NoHome S e j ∧ j ≤ S.length ∧ (nx S c = none ∨ nx S c = some e) := by
    intro d
    induction d with
    | zero =>
      intro j c hc hn hj
      have := nohome_len hS hc hn
      omega
    | succ d ih =>
      intro j c hc hn hj
      have hl := nohome_len hS hc hn
      rcases hk : nx S c with _ | k
      · exact ⟨j, c, hc, hn, hl, .inl hk⟩
      · by_cases he : k = e
        · exact ⟨j, c, hc, hn, hl, .inr (by rw [hk, he])⟩
        · have hk1 : itr S e (j + 1) = some k := itr_succ.2 ⟨c, hc, hk⟩
          refine ih (j + 1) k hk1 (fun i h1 h2 => ?_) (by omega)
          rcases Nat.lt_or_ge i (j + 1) with g | g
          · exact hn i h1 (by omega)
          · obtain rfl : i = j + 1 := by omega
            rw [hk1]
            intro h
            injection h with h
            exact he h
  exact key (S.length + 1) 0 e rfl (fun i h1 h2 => by omega) (by omega)

def home (S : List (Nat × Nat)) (e : Nat) : Prop := ∃ j, 1 ≤ j ∧ itr S e j = some e
def reach (S : List (Nat × Nat)) (e x : Nat) : Prop := ∃ j, itr S e j = some x
def dom (S : List (Nat × Nat)) (e : Nat) : Bool := (nx S e).isSome
theorem reach.trans {S : List (Nat × Nat)} {a b c : Nat} (h1 : reach S a b) (h2 : reach S b c) : reach S a c := by
  obtain ⟨i, hi⟩ := h1
  obtain ⟨j, hj⟩ := h2
  exact ⟨i + j, by rw [itr_add hi]; exact hj⟩
theorem home.dom {S : List (Nat × Nat)} {e : Nat} (h : home S e) : dom S e = true := by
  obtain ⟨j, hj, he⟩ := h
  obtain ⟨c, hc⟩ := itr_le he 1 hj
  obtain ⟨d, hd, hc⟩ := itr_succ.1 hc
  unfold itr at hd
  injection hd with hd
  subst hd
  unfold Mp.dom
  rw [hc]
  rfl
theorem home_times {S : List (Nat × Nat)} {e j : Nat} (he : itr S e j = some e) : ∀ m, itr S e (j * m) = some e
  | 0 => rfl
  | m + 1 => by rw [Nat.mul_succ, Nat.add_comm, itr_add he]; exact home_times he m
/-- on a cycle every edge that is reached leads back -/
theorem home.back {S : List (Nat × Nat)} {e x : Nat} (h : home S e) (hr : reach S e x) : reach S x e := by
  obtain ⟨j, hj, he⟩ := h
  obtain ⟨i, hi⟩ := hr
  refine ⟨j * i - i, ?_⟩
  have h1 : i ≤ j * i := Nat.le_mul_of_pos_left i hj
  have := itr_add hi (j * i - i)
  rw [Nat.add_sub_cancel' h1, home_times he] at this
  exact this.symm
theorem home.fwd {S : List (Nat × Nat)} {e x : Nat} (h : home S e) (hr : reach S e x) : home S x := by
  obtain ⟨j, hj, he⟩ := h
  obtain ⟨i, hi⟩ := hr
  refine ⟨j, hj, ?_⟩
  have h1 := itr_add hi j
  have h2 := itr_add he i
  rw [Nat.add_comm] at h1
  rw [← h1, h2, hi]
/-- what leads to a cycle lies on it -/
theorem home.src {S : List (Nat × Nat)} (hS : Inj S) {e x : Nat} (h : home S x) (hr : reach S e x) : reach S x e := by
  obtain ⟨j, hj, he⟩ := h
  obtain ⟨i, hi⟩ := hr
  have h1 : i ≤ j * i := Nat.le_mul_of_pos_left i hj
  obtain ⟨y, hy⟩ := itr_le (home_times he i) (j * i - i) (by omega)
  have := itr_add hy i
  rw [Nat.sub_add_cancel h1, home_times he] at this
  have := itr_back hS hi this.symm
  exact ⟨j * i - i, by rw [hy, this]⟩
theorem home.ran {S : List (Nat × Nat)} (hS : Inj S) {e : Nat} (h : home S e) : ran S e = true := by
  obtain ⟨j, hj, he⟩ := h
  obtain ⟨c, _, hc⟩ := itr_succ.1 (show itr S e (j - 1 + 1) = some e by rw [Nat.sub_add_cancel hj]; exact he)
  exact (ran_iff hS).2 ⟨c, hc⟩
def start (S : List (Nat × Nat)) (e : Nat) : Bool := dom S e && !ran S e
theorem reach_ran {S : List (Nat × Nat)} (hS : Inj S) {e x : Nat} (h : reach S e x) : x = e ∨ ran S x = true := by
  obtain ⟨j, hj⟩ := h
  rcases j with _ | j
  · left
    unfold itr at hj
    injection hj with hj
    exact hj.symm
  · right
    obtain ⟨c, _, hc⟩ := itr_succ.1 hj
    exact (ran_iff hS).2 ⟨c, hc⟩
theorem start_not_home {S : List (Nat × Nat)} (hS : Inj S) {e x : Nat} (hs : ran S e = false) (hr : reach S e x) : ¬ home S x := by
  intro h
  have h1 := h.src hS hr
  rcases reach_ran hS h1 with rfl | h2
  · rw [h.ran hS] at hs; cases hs
  · rw [hs] at h2; cases h2
/-- an edge that is not on a cycle is reached from a start -/
theorem start_of {S : List (Nat × Nat)} (hS : Inj S) {x : Nat} (hd : dom S x = true) (hh : ¬ home S x) : ∃ s, start S s = true ∧ reach S s x := by
  apply Classical.byContradiction
  intro hno
  have key : ∀ n, ∃ y, itr S y n = some x := by
    intro n
    induction n with
    | zero => exact ⟨x, rfl⟩
    | succ n ih =>
      obtain ⟨y, hy⟩ := ih
      have hyd : dom S y = true := by
        rcases n with _ | n
        · unfold itr at hy
          injection hy with hy
          subst hy
          exact hd
        · obtain ⟨c, hc⟩ := itr_le hy 1 (by omega)
          obtain ⟨d, hd', hc⟩ := itr_succ.1 hc
          unfold itr at hd'
          injection hd' with hd'
          subst hd'
          unfold dom
          rw [hc]
          rfl
      have hns : start S y ≠ true := fun h => hno ⟨y, h, n, hy⟩
      unfold start at hns
      rw [hyd, Bool.true_and] at hns
      have hns : ran S y = true := by
        cases hr : ran S y
        · rw [hr] at hns; exact absurd rfl hns
        · rfl
      obtain ⟨z, hz⟩ := (ran_iff hS).1 hns
      refine ⟨z, ?_⟩
      have h1 : itr S z 1 = some y := itr_succ.2 ⟨z, rfl, hz⟩
      have := itr_add h1 n
      rw [Nat.add_comm] at this
      rw [this, hy]
  obtain ⟨y, hy⟩ := key (S.length + 1)
  by_cases hn : NoHome S y S.length
  · have := itr_short hS hy fun i h1 h2 => hn i h1 (by omega)
    omega
  · unfold NoHome at hn
    simp only [Classical.not_forall] at hn
    obtain ⟨i, h1, h2, h3⟩ := hn
    have h3 : itr S y i = some y := Classical.byContradiction h3
    exact hh (home.fwd ⟨i, h1, h3⟩ ⟨_, hy⟩)
/-- the edges of a chain are those that are reached -/
theorem chain_mem {S : List (Nat × Nat)} (hS : Inj S) {e x : Nat} : x ∈ chain S e ↔ reach S e x := by
  obtain ⟨j, c, hc, hn, hl, hk | hk⟩ := chain_cases hS e
  · rw [chain_end hS hc hn hk, wayL_mem hc]
    constructor
    · rintro ⟨i, _, hi⟩; exact ⟨i, hi⟩
    · rintro ⟨i, hi⟩
      rcases Nat.lt_or_ge j i with g | g
      · obtain ⟨d, hd⟩ := itr_le hi (j + 1) (by omega)
        obtain ⟨b, hb, hd⟩ := itr_succ.1 hd
        rw [hc] at hb
        injection hb with hb
        subst hb
        rw [hk] at hd
        cases hd
      · exact ⟨i, g, hi⟩
  · have hj1 : itr S e (j + 1) = some e := itr_succ.2 ⟨c, hc, hk⟩
    rw [chain_home hS hc hn hk, wayL_mem hj1]
    constructor
    · rintro ⟨i, _, hi⟩; exact ⟨i, hi⟩
    · rintro ⟨i, hi⟩
      refine ⟨i % (j + 1), Nat.le_of_lt (Nat.mod_lt _ (by omega)), ?_⟩
      have h1 := itr_add (home_times hj1 (i / (j + 1))) (i % (j + 1))
      rw [Nat.div_add_mod] at h1
      rw [← h1, hi]
theorem chain_ne {S : List (Nat × Nat)} {e : Nat} : chain S e ≠ [] := by unfold chain; simp
theorem chain_head {S : List (Nat × Nat)} {e : Nat} : (chain S e)[0]! = e := rfl
/-- a chain comes home just from a cycle -/
theorem chain_last {S : List (Nat × Nat)} (hS : Inj S) {e : Nat} : (2 ≤ (chain S e).length ∧ (chain S e)[(chain S e).length - 1]! = e) ↔ home S e := by
  obtain ⟨j, c, hc, hn, hl, hk | hk⟩ := chain_cases hS e
  · rw [chain_end hS hc hn hk, wayL_len, getElem!_def, wayL_get (by omega), Nat.add_sub_cancel, hc]
    constructor
    · rintro ⟨h1, h2⟩
      have h2 : c = e := h2
      exact absurd (by rw [hc, h2]) (hn j (by omega) (Nat.le_refl _))
    · intro h
      obtain ⟨i, h1, h2⟩ := h
      rcases Nat.lt_or_ge j i with g | g
      · obtain ⟨d, hd⟩ := itr_le h2 (j + 1) (by omega)
        obtain ⟨b, hb, hd⟩ := itr_succ.1 hd
        rw [hc] at hb
        injection hb with hb
        subst hb
        rw [hk] at hd
        cases hd
      · exact absurd h2 (hn i h1 g)
  · have hj1 : itr S e (j + 1) = some e := itr_succ.2 ⟨c, hc, hk⟩
    rw [chain_home hS hc hn hk, wayL_len, getElem!_def, wayL_get (by omega), Nat.add_sub_cancel, hj1]
    exact ⟨fun _ => ⟨j + 1, by omega, hj1⟩, fun _ => ⟨by omega, rfl⟩⟩
end Go.Proofs.Mp
/- Plain: all chains, as the program finds them and as the reference finds them. No program is named here. -/
set_option linter.unusedVariables false
set_option linter.unusedSimpArgs false
namespace Go.Proofs.Mp

/-- the map without the keys that are struck -/
def mpx (S : List (Nat × Nat)) (D : Nat → Bool) (x : Nat) : Option Nat := if D x = true then none else nx S x
def adv (S : List (Nat × Nat)) (D : Nat → Bool) (n : Nat) : Nat → Bool := fun x => D x || decide (x ∈ chain S n)
/-- the keys that are struck after j steps from n -/
def Dj (S : List (Nat × Nat)) (D : Nat → Bool) (n j : Nat) : Nat → Bool := fun x => D x || (List.range j).any fun i => itr S n i == some x
def Open (S : List (Nat × Nat)) (D : Nat → Bool) (n : Nat) : Prop := ∀ x, reach S n x → dom S x = true → D x = false
theorem Dj_zero (S : List (Nat × Nat)) (D : Nat → Bool) (n : Nat) : Dj S D n 0 = D := by
  funext x
  unfold Dj
  simp
theorem Dj_succ {S : List (Nat × Nat)} {D : Nat → Bool} {n j c : Nat} (hc : itr S n j = some c) : Dj S D n (j + 1) = fun x => Dj S D n j x || decide (x = c) := by
  funext x
  unfold Dj
  rw [List.range_succ, List.any_append, Bool.or_assoc]
  congr 2
  rw [List.any_cons, List.any_nil, Bool.or_false, hc]
  by_cases h : x = c
  · simp [h]
  · have : ¬ c = x := fun g => h g.symm
    simp [h, this]
theorem mpx_struck (S : List (Nat × Nat)) (D : Nat → Bool) (c x : Nat) : mpx S (fun y => D y || decide (y = c)) x = if x = c then none else mpx S D x := by
  unfold mpx
  by_cases h : x = c
  · simp [h]
  · simp [h]
/-- the walk's next step: the map gives what follows, until the chain ends or is home -/
theorem follow_next {S : List (Nat × Nat)} {D : Nat → Bool} {n j c : Nat} (hS : Inj S) (ho : Open S D n) (hc : itr S n j = some c) (hn : NoHome S n j) : mpx S (Dj S D n j) c = nx S c := by
  unfold mpx
  by_cases hd : dom S c = true
  · rw [if_neg]
    intro h
    unfold Dj at h
    rw [Bool.or_eq_true, List.any_eq_true] at h
    rcases h with h | ⟨i, hi, h⟩
    · rw [ho c ⟨j, hc⟩ hd] at h; cases h
    · rw [List.mem_range] at hi
      exact itr_apart hS hn hi (Nat.le_refl _) (by simpa using h) hc
  · unfold dom at hd
    rw [Bool.not_eq_true, Option.isSome_eq_false_iff, Option.isNone_iff_eq_none] at hd
    rw [hd]
    split <;> rfl
theorem follow_home {S : List (Nat × Nat)} {D : Nat → Bool} {n j : Nat} (hj : 1 ≤ j) : mpx S (Dj S D n j) n = none := by
  unfold mpx Dj
  rw [if_pos]
  rw [Bool.or_eq_true, List.any_eq_true]
  exact .inr ⟨0, List.mem_range.2 (by omega), by simp [itr]⟩
theorem follow_end {S : List (Nat × Nat)} {D : Nat → Bool} {n j c : Nat} (hS : Inj S) (hc : itr S n j = some c) (hn : NoHome S n j) (hk : nx S c = none) : chain S n = wayL S n j ∧ mpx S (Dj S D n j) = mpx S (adv S D n) := by
  have he := chain_end hS hc hn hk
  refine ⟨he, ?_⟩
  funext x
  unfold mpx adv
  by_cases hx : x = c
  · subst hx
    rw [hk]
    simp
  · have : Dj S D n j x = (D x || decide (x ∈ chain S n)) := by
      unfold Dj
      rw [he]
      congr 1
      rw [Bool.eq_iff_iff, List.any_eq_true, decide_eq_true_eq, wayL_mem hc]
      constructor
      · rintro ⟨i, hi, h⟩
        rw [List.mem_range] at hi
        exact ⟨i, by omega, by simpa using h⟩
      · rintro ⟨i, hi, h⟩
        refine ⟨i, List.mem_range.2 ?_, by simpa using h⟩
        rcases Nat.lt_or_ge i j with g | g
        · exact g
        · obtain rfl : i = j := by omega
          rw [hc] at h
          injection h with h
          exact absurd h.symm hx
    rw [this]
theorem follow_back {S : List (Nat × Nat)} {D : Nat → Bool} {n j c : Nat} (hS : Inj S) (hc : itr S n j = some c) (hn : NoHome S n j) (hk : nx S c = some n) : chain S n = wayL S n (j + 1) ∧ mpx S (Dj S D n (j + 1)) = mpx S (adv S D n) := by
  have he := chain_home hS hc hn hk
  refine ⟨he, ?_⟩
  have hj1 : itr S n (j + 1) = some n := itr_succ.2 ⟨c, hc, hk⟩
  funext x
  unfold mpx adv
  have : Dj S D n (j + 1) x = (D x || decide (x ∈ chain S n)) := by
    unfold Dj
    rw [he]
    congr 1
    rw [Bool.eq_iff_iff, List.any_eq_true, decide_eq_true_eq, wayL_mem hj1]
    constructor
    · rintro ⟨i, hi, h⟩
      rw [List.mem_range] at hi
      exact ⟨i, by omega, by simpa using h⟩
    · rintro ⟨i, hi, h⟩
      rcases Nat.lt_or_ge i (j + 1) with g | g
      · exact ⟨i, List.mem_range.2 g, by simpa using h⟩
      · obtain rfl : i = j + 1 := by omega
        rw [hj1] at h
        injection h with h
        exact ⟨0, List.mem_range.2 (by omega), by simp [itr, h]⟩
  rw [this]

/-- the first edge of a cyclic chain -/
def cycB (S : List (Nat × Nat)) (e : Nat) : Bool := decide (2 ≤ (chain S e).length) && decide ((chain S e)[(chain S e).length - 1]! = e) && (chain S e).all fun x => decide (e ≤ x)
theorem cycB_iff {S : List (Nat × Nat)} (hS : Inj S) {e : Nat} : cycB S e = true ↔ home S e ∧ ∀ x, reach S e x → e ≤ x := by
  unfold cycB
  rw [Bool.and_eq_true, Bool.and_eq_true, decide_eq_true_eq, decide_eq_true_eq, chain_last hS, List.all_eq_true]
  simp only [decide_eq_true_eq, chain_mem hS]
def firstB (S : List (Nat × Nat)) (e : Nat) : Bool := !ran S e || cycB S e
def D1 (S : List (Nat × Nat)) (n : Nat) : Nat → Bool := fun x => (List.range n).any fun s => start S s && decide (x ∈ chain S s)
def L1 (S : List (Nat × Nat)) (n : Nat) : List (List Nat) := ((List.range n).filter (start S)).map (chain S)
def D2 (S : List (Nat × Nat)) (N n : Nat) : Nat → Bool := fun x => D1 S N x || (List.range n).any fun m => cycB S m && decide (x ∈ chain S m)
def L2 (S : List (Nat × Nat)) (n : Nat) : List (List Nat) := ((List.range n).filter (cycB S)).map (chain S)
theorem D1_iff {S : List (Nat × Nat)} (hS : Inj S) {n x : Nat} : D1 S n x = true ↔ ∃ s, s < n ∧ start S s = true ∧ reach S s x := by
  unfold D1
  rw [List.any_eq_true]
  simp only [List.mem_range, Bool.and_eq_true, decide_eq_true_eq, chain_mem hS]
theorem D2_iff {S : List (Nat × Nat)} (hS : Inj S) {N n x : Nat} : D2 S N n x = true ↔ (∃ s, s < N ∧ start S s = true ∧ reach S s x) ∨ ∃ m, m < n ∧ cycB S m = true ∧ reach S m x := by
  unfold D2
  rw [Bool.or_eq_true, D1_iff hS, List.any_eq_true]
  simp only [List.mem_range, Bool.and_eq_true, decide_eq_true_eq, chain_mem hS]
theorem start_split {S : List (Nat × Nat)} {s : Nat} : start S s = true ↔ dom S s = true ∧ ran S s = false := by
  unfold start
  rw [Bool.and_eq_true, Bool.not_eq_true']
/-- the first loop's test -/
theorem first_test {S : List (Nat × Nat)} (hS : Inj S) (n : Nat) : ((mpx S (D1 S n) n).isSome && !ran S n) = start S n := by
  by_cases hr : ran S n = true
  · unfold start; rw [hr]; simp
  · rw [Bool.not_eq_true] at hr
    unfold start mpx
    rw [hr, if_neg]
    · rfl
    · rw [D1_iff hS]
      rintro ⟨s, h1, h2, h3⟩
      rcases reach_ran hS h3 with rfl | h
      · omega
      · rw [hr] at h; cases h
theorem reach_meet {S : List (Nat × Nat)} (hS : Inj S) {a b x : Nat} (h1 : reach S a x) (h2 : reach S b x) : reach S a b ∨ reach S b a := by
  obtain ⟨i, hi⟩ := h1
  obtain ⟨j, hj⟩ := h2
  rcases Nat.le_total i j with g | g
  · obtain ⟨y, hy⟩ := itr_le hj (j - i) (by omega)
    have := itr_add hy i
    rw [Nat.sub_add_cancel g, hj] at this
    have := itr_back hS hi this.symm
    exact .inr ⟨j - i, by rw [hy, this]⟩
  · obtain ⟨y, hy⟩ := itr_le hi (i - j) (by omega)
    have := itr_add hy j
    rw [Nat.sub_add_cancel g, hi] at this
    have := itr_back hS hj this.symm
    exact .inl ⟨i - j, by rw [hy, this]⟩
theorem start_uniq {S : List (Nat × Nat)} (hS : Inj S) {a b x : Nat} (ha : start S a = true) (hb : start S b = true) (h1 : reach S a x) (h2 : reach S b x) : a = b := by
  have ra := (start_split.1 ha).2
  have rb := (start_split.1 hb).2
  rcases reach_meet hS h1 h2 with h | h
  · rcases reach_ran hS h with g | g
    · exact g.symm
    · rw [rb] at g; cases g
  · rcases reach_ran hS h with g | g
    · exact g
    · rw [ra] at g; cases g
theorem first_open {S : List (Nat × Nat)} (hS : Inj S) {n : Nat} (h : start S n = true) : Open S (D1 S n) n := by
  intro x hx _
  rw [← Bool.not_eq_true, D1_iff hS]
  rintro ⟨s, h1, h2, h3⟩
  have := start_uniq hS h2 h h3 hx
  omega
theorem D1_succ (S : List (Nat × Nat)) (n : Nat) : D1 S (n + 1) = if start S n = true then adv S (D1 S n) n else D1 S n := by
  funext x
  unfold D1 adv
  rw [List.range_succ, List.any_append, List.any_cons, List.any_nil, Bool.or_false]
  split
  · rename_i h; rw [h, Bool.true_and]
  · rename_i h; rw [Bool.not_eq_true] at h; rw [h, Bool.false_and, Bool.or_false]
theorem L1_succ (S : List (Nat × Nat)) (n : Nat) : L1 S (n + 1) = if start S n = true then L1 S n ++ [chain S n] else L1 S n := by
  unfold L1
  rw [List.range_succ, List.filter_append, List.map_append]
  split
  · rename_i h; simp [h]
  · rename_i h; simp [h]
theorem D2_succ (S : List (Nat × Nat)) (N n : Nat) : D2 S N (n + 1) = if cycB S n = true then adv S (D2 S N n) n else D2 S N n := by
  funext x
  unfold D2 adv
  rw [List.range_succ, List.any_append, List.any_cons, List.any_nil, Bool.or_false]
  split
  · rename_i h; rw [h, Bool.true_and, ← Bool.or_assoc]
  · rename_i h; rw [Bool.not_eq_true] at h; rw [h, Bool.false_and, Bool.or_false]
theorem D2_zero (S : List (Nat × Nat)) (N : Nat) : D2 S N 0 = D1 S N := by
  funext x
  unfold D2
  simp
theorem L2_succ (S : List (Nat × Nat)) (n : Nat) : L2 S (n + 1) = if cycB S n = true then L2 S n ++ [chain S n] else L2 S n := by
  unfold L2
  rw [List.range_succ, List.filter_append, List.map_append]
  split
  · rename_i h; simp [h]
  · rename_i h; simp [h]
/-- a cycle has a least edge -/
theorem least_of {S : List (Nat × Nat)} (hS : Inj S) {n : Nat} (h : home S n) : ∃ m, cycB S m = true ∧ reach S n m ∧ m ≤ n := by
  have key : ∀ b m, m ≤ b → reach S n m → ∃ m, reach S n m ∧ ∀ y, reach S n y → m ≤ y := by
    intro b
    induction b with
    | zero =>
      intro m hm hr
      exact ⟨m, hr, fun y _ => by omega⟩
    | succ b ih =>
      intro m hm hr
      by_cases hc : ∃ y, reach S n y ∧ y < m
      · obtain ⟨y, hy, hlt⟩ := hc
        exact ih y (by omega) hy
      · refine ⟨m, hr, fun y hy => ?_⟩
        rcases Nat.lt_or_ge y m with g | g
        · exact absurd ⟨y, hy, g⟩ hc
        · exact g
  obtain ⟨m, hr, hmin⟩ := key n n (Nat.le_refl _) ⟨0, rfl⟩
  refine ⟨m, (cycB_iff hS).2 ⟨h.fwd hr, fun x hx => hmin x (hr.trans hx)⟩, hr, hmin n ⟨0, rfl⟩⟩
def Lim (S : List (Nat × Nat)) (N : Nat) : Prop := ∀ e, dom S e = true → e < N
/-- the second loop's test -/
theorem second_test {S : List (Nat × Nat)} (hS : Inj S) {N : Nat} (hN : Lim S N) (n : Nat) : (mpx S (D2 S N n) n).isSome = cycB S n := by
  rw [Bool.eq_iff_iff]
  constructor
  · intro h
    unfold mpx at h
    split at h
    · cases h
    · rename_i hD
      have hd : dom S n = true := h
      rw [D2_iff hS] at hD
      have hh : home S n := Classical.byContradiction fun hh => by
        obtain ⟨s, h1, h2⟩ := start_of hS hd hh
        exact hD (.inl ⟨s, hN s (start_split.1 h1).1, h1, h2⟩)
      obtain ⟨m, h1, h2, h3⟩ := least_of hS hh
      rcases Nat.lt_or_eq_of_le h3 with g | g
      · exact absurd (.inr ⟨m, g, h1, hh.back h2⟩) hD
      · rw [← g]; exact h1
  · intro h
    obtain ⟨hh, hmin⟩ := (cycB_iff hS).1 h
    unfold mpx
    rw [if_neg]
    · exact hh.dom
    · rw [D2_iff hS]
      rintro (⟨s, h1, h2, h3⟩ | ⟨m, h1, h2, h3⟩)
      · exact start_not_home hS (start_split.1 h2).2 h3 hh
      · have := hmin m (((cycB_iff hS).1 h2).1.back h3)
        omega
theorem second_open {S : List (Nat × Nat)} (hS : Inj S) {N n : Nat} (h : cycB S n = true) : Open S (D2 S N n) n := by
  obtain ⟨hh, hmin⟩ := (cycB_iff hS).1 h
  intro x hx _
  rw [← Bool.not_eq_true, D2_iff hS]
  rintro (⟨s, h1, h2, h3⟩ | ⟨m, h1, h2, h3⟩)
  · exact start_not_home hS (start_split.1 h2).2 h3 (hh.fwd hx)
  · have hm := ((cycB_iff hS).1 h2).1
    have := hmin m (hx.trans (hm.back h3))
    omega
/-- all first edges -/
def repB (S : List (Nat × Nat)) (e : Nat) : Bool := start S e || cycB S e
def chainsL (S : List (Nat × Nat)) (N : Nat) : List (List Nat) := ((List.range N).filter (repB S)).map (chain S)
theorem reps_perm {S : List (Nat × Nat)} (hS : Inj S) (N : Nat) : ((List.range N).filter (start S) ++ (List.range N).filter (cycB S)).Perm ((List.range N).filter (repB S)) := by
  have hx : ∀ e, start S e = true → cycB S e = false := by
    intro e h
    rw [← Bool.not_eq_true, cycB_iff hS]
    rintro ⟨hh, _⟩
    exact start_not_home hS (start_split.1 h).2 ⟨0, rfl⟩ hh
  generalize List.range N = l
  induction l with
  | nil => exact List.Perm.nil
  | cons e l ih =>
    unfold repB at ih ⊢
    by_cases h1 : start S e = true
    · rw [List.filter_cons_of_pos h1, List.filter_cons_of_neg (by rw [hx e h1]; decide), List.filter_cons_of_pos (by rw [h1]; rfl), List.cons_append]
      exact ih.cons e
    · by_cases h2 : cycB S e = true
      · rw [List.filter_cons_of_neg h1, List.filter_cons_of_pos h2, List.filter_cons_of_pos (by rw [h2]; simp)]
        exact List.perm_middle.trans (ih.cons e)
      · rw [List.filter_cons_of_neg h1, List.filter_cons_of_neg h2, List.filter_cons_of_neg (by simp [h1, h2])]
        exact ih
/-- a sorted permutation of the chains is the list of chains -/
theorem chains_sorted {S : List (Nat × Nat)} (hS : Inj S) {N : Nat} {p : List (List Nat)} (hp : p.Perm (L1 S N ++ L2 S N)) (hs : p.Pairwise fun a b => a[0]! ≤ b[0]!) : p = chainsL S N := by
  have hall : ∀ c ∈ p, c = chain S c[0]! := by
    intro c hc
    have := hp.mem_iff.1 hc
    unfold L1 L2 at this
    rw [← List.map_append, List.mem_map] at this
    obtain ⟨e, _, rfl⟩ := this
    rfl
  have hq : p = (p.map fun c => c[0]!).map (chain S) := by
    rw [List.map_map]
    conv => lhs; rw [← List.map_id p]
    apply List.map_congr_left
    intro c hc
    exact hall c hc
  have h1 : (p.map fun c => c[0]!).Perm ((List.range N).filter (repB S)) := by
    have := hp.map fun c => c[0]!
    unfold L1 L2 at this
    rw [← List.map_append, List.map_map] at this
    have e : ((fun c : List Nat => c[0]!) ∘ chain S) = id := by funext e; rfl
    rw [e, List.map_id] at this
    exact this.trans (reps_perm hS N)
  have h2 : (p.map fun c => c[0]!).Pairwise (· ≤ ·) := by rw [List.pairwise_map]; exact hs
  have h3 : ((List.range N).filter (repB S)).Pairwise (· ≤ ·) := (List.pairwise_lt_range.imp fun h => Nat.le_of_lt h).filter _
  have h4 : (p.map fun c => c[0]!) = (List.range N).filter (repB S) := h1.eq_of_pairwise (fun a b _ _ hab hba => Nat.le_antisymm hab hba) h2 h3
  rw [hq, h4]
  rfl
/-- an edge that begins a chain is in no chain that begins before it -/
theorem first_unused {S : List (Nat × Nat)} (hS : Inj S) {e e' : Nat} (h : firstB S e = true) (h' : firstB S e' = true) (hlt : e' < e) : ¬ e ∈ chain S e' := by
  rw [chain_mem hS]
  intro hr
  unfold firstB at h h'
  rw [Bool.or_eq_true, Bool.not_eq_true', cycB_iff hS] at h h'
  rcases h with h | ⟨hh, hmin⟩
  · rcases reach_ran hS hr with g | g
    · omega
    · rw [h] at g; cases g
  · rcases h' with h' | ⟨hh', hmin'⟩
    · exact start_not_home hS h' hr hh
    · have := hmin e' (hh'.back hr)
      omega
end Go.Proofs.Mp
/- Plain: the triangles of a grid, and what they give. No program is named here. -/
set_option linter.unusedVariables false
set_option linter.unusedSimpArgs false
namespace Go.Proofs.Mp

/-- what the triangle with the corners a, b, c gives, whose sides have the numbers p, q, r -/
def triS (A B C : Bool) (p q r : Nat) : List (Nat × Nat) :=
  match A, B, C with
  | true, false, false => [(p, r)]
  | true, true, false => [(q, r)]
  | true, false, true => [(p, q)]
  | false, true, false => [(q, p)]
  | false, true, true => [(r, p)]
  | false, false, true => [(r, q)]
  | _, _, _ => []
def lowS (ab : Nat → Bool) (W i : Nat) : List (Nat × Nat) := triS (ab i) (ab (i + 1)) (ab (i + W + 1)) (3 * i) (3 * (i + 1) + 1) (3 * i + 2)
def uppS (ab : Nat → Bool) (W i : Nat) : List (Nat × Nat) := triS (ab i) (ab (i + W + 1)) (ab (i + W)) (3 * i + 2) (3 * (i + W)) (3 * i + 1)
def rowS (ab : Nat → Bool) (W r : Nat) : Nat → List (Nat × Nat)
  | 0 => []
  | c + 1 => rowS ab W r c ++ lowS ab W (r * W + c) ++ uppS ab W (r * W + c)
def stepsTo (ab : Nat → Bool) (W : Nat) : Nat → List (Nat × Nat)
  | 0 => []
  | r + 1 => stepsTo ab W r ++ rowS ab W r (W - 1)
def stepsL (ab : Nat → Bool) (W H : Nat) : List (Nat × Nat) := stepsTo ab W (H - 1)
def keyF (ab : Nat → Bool) (W f : Nat) : Int :=
  if ab (f / 3) = true then (if f % 3 = 0 then 2 * ((f / 3 : Nat) : Int) else if f % 3 = 1 then 2 * (((f / 3 : Nat) : Int) - 1) else 2 * ((f / 3 : Nat) : Int) + 1)
  else (if f % 3 = 0 then 2 * (((f / 3 : Nat) : Int) - W) + 1 else if f % 3 = 1 then 2 * ((f / 3 : Nat) : Int) + 1 else 2 * ((f / 3 : Nat) : Int))
def keyT (ab : Nat → Bool) (W f : Nat) : Int := keyF (fun i => !ab i) W f
theorem n30 (i : Nat) : 3 * i / 3 = i ∧ 3 * i % 3 = 0 := by omega
theorem n31 (i : Nat) : (3 * i + 1) / 3 = i ∧ (3 * i + 1) % 3 = 1 := by omega
theorem n32 (i : Nat) : (3 * i + 2) / 3 = i ∧ (3 * i + 2) % 3 = 2 := by omega
theorem keyF0 (ab : Nat → Bool) (W i : Nat) : keyF ab W (3 * i) = if ab i = true then 2 * (i : Int) else 2 * ((i : Int) - W) + 1 := by
  unfold keyF; rw [(n30 i).1, (n30 i).2]; rfl
theorem keyF1 (ab : Nat → Bool) (W i : Nat) : keyF ab W (3 * i + 1) = if ab i = true then 2 * ((i : Int) - 1) else 2 * (i : Int) + 1 := by
  unfold keyF; rw [(n31 i).1, (n31 i).2]; rfl
theorem keyF2 (ab : Nat → Bool) (W i : Nat) : keyF ab W (3 * i + 2) = if ab i = true then 2 * (i : Int) + 1 else 2 * (i : Int) := by
  unfold keyF; rw [(n32 i).1, (n32 i).2]; rfl
theorem low_key {ab : Nat → Bool} {W i : Nat} {p : Nat × Nat} (h : p ∈ lowS ab W i) : keyF ab W p.1 = 2 * (i : Int) ∧ keyT ab W p.2 = 2 * (i : Int) := by
  unfold lowS triS at h
  rcases hA : ab i <;> rcases hB : ab (i + 1) <;> rcases hC : ab (i + W + 1) <;> rw [hA, hB, hC] at h <;> simp only [List.not_mem_nil, List.mem_singleton] at h <;> subst h <;> dsimp only <;> unfold keyT <;>
    simp only [keyF0, keyF1, keyF2, hA, hB, hC] <;> simp <;> omega
theorem upp_key {ab : Nat → Bool} {W i : Nat} {p : Nat × Nat} (h : p ∈ uppS ab W i) : keyF ab W p.1 = 2 * (i : Int) + 1 ∧ keyT ab W p.2 = 2 * (i : Int) + 1 := by
  unfold uppS triS at h
  rcases hA : ab i <;> rcases hB : ab (i + W + 1) <;> rcases hC : ab (i + W) <;> rw [hA, hB, hC] at h <;> simp only [List.not_mem_nil, List.mem_singleton] at h <;> subst h <;> dsimp only <;> unfold keyT <;>
    simp only [keyF0, keyF1, keyF2, hA, hB, hC] <;> simp <;> omega
theorem triS_len (A B C : Bool) (p q r : Nat) : (triS A B C p q r).length ≤ 1 := by cases A <;> cases B <;> cases C <;> simp [triS]
def Asc2 (ab : Nat → Bool) (W : Nat) (l : List (Nat × Nat)) : Prop := l.Pairwise fun p q => keyF ab W p.1 < keyF ab W q.1 ∧ keyT ab W p.2 < keyT ab W q.2
theorem asc_one {ab : Nat → Bool} {W : Nat} {l : List (Nat × Nat)} (h : l.length ≤ 1) : Asc2 ab W l := by
  match l, h with
  | [], _ => exact List.Pairwise.nil
  | [p], _ => exact List.pairwise_singleton _ _
theorem asc_app {ab : Nat → Bool} {W : Nat} {l m : List (Nat × Nat)} (hl : Asc2 ab W l) (hm : Asc2 ab W m) (k : Int) (h1 : ∀ p ∈ l, keyF ab W p.1 < k ∧ keyT ab W p.2 < k) (h2 : ∀ p ∈ m, k ≤ keyF ab W p.1 ∧ k ≤ keyT ab W p.2) : Asc2 ab W (l ++ m) := by
  unfold Asc2
  rw [List.pairwise_append]
  refine ⟨hl, hm, fun p hp q hq => ?_⟩
  have := h1 p hp
  have := h2 q hq
  omega
theorem rowS_key {ab : Nat → Bool} {W r : Nat} : ∀ {c}, ∀ p ∈ rowS ab W r c, 2 * ((r * W : Nat) : Int) ≤ keyF ab W p.1 ∧ keyF ab W p.1 < 2 * ((r * W + c : Nat) : Int) ∧ 2 * ((r * W : Nat) : Int) ≤ keyT ab W p.2 ∧ keyT ab W p.2 < 2 * ((r * W + c : Nat) : Int)
  | 0, p, hp => by simp [rowS] at hp
  | c + 1, p, hp => by
    unfold rowS at hp
    rw [List.mem_append, List.mem_append] at hp
    rcases hp with (hp | hp) | hp
    · have := rowS_key p hp; omega
    · have := low_key hp; omega
    · have := upp_key hp; omega
theorem rowS_asc (ab : Nat → Bool) (W r : Nat) : ∀ c, Asc2 ab W (rowS ab W r c)
  | 0 => List.Pairwise.nil
  | c + 1 => by
    unfold rowS
    refine asc_app (asc_app (rowS_asc ab W r c) (asc_one (triS_len _ _ _ _ _ _)) (2 * ((r * W + c : Nat) : Int)) (fun p hp => ?_) (fun p hp => ?_)) (asc_one (triS_len _ _ _ _ _ _)) (2 * ((r * W + c : Nat) : Int) + 1) (fun p hp => ?_) (fun p hp => ?_)
    · have := rowS_key p hp; omega
    · have := low_key hp; omega
    · rw [List.mem_append] at hp
      rcases hp with hp | hp
      · have := rowS_key p hp; omega
      · have := low_key hp; omega
    · have := upp_key hp; omega
theorem stepsTo_key {ab : Nat → Bool} {W : Nat} (hW : 1 ≤ W) : ∀ {r}, ∀ p ∈ stepsTo ab W r, keyF ab W p.1 < 2 * ((r * W : Nat) : Int) ∧ keyT ab W p.2 < 2 * ((r * W : Nat) : Int)
  | 0, p, hp => by simp [stepsTo] at hp
  | r + 1, p, hp => by
    have e : (r + 1) * W = r * W + W := Nat.succ_mul r W
    unfold stepsTo at hp
    rw [List.mem_append] at hp
    rcases hp with hp | hp
    · have := stepsTo_key hW p hp; omega
    · have := rowS_key p hp; omega
theorem stepsTo_asc {ab : Nat → Bool} {W : Nat} (hW : 1 ≤ W) : ∀ r, Asc2 ab W (stepsTo ab W r)
  | 0 => List.Pairwise.nil
  | r + 1 => by
    unfold stepsTo
    refine asc_app (stepsTo_asc hW r) (rowS_asc ab W r _) (2 * ((r * W : Nat) : Int)) (fun p hp => stepsTo_key hW p hp) (fun p hp => ?_)
    have := rowS_key p hp; omega
theorem asc_inj {ab : Nat → Bool} {W : Nat} {l : List (Nat × Nat)} (h : Asc2 ab W l) : Inj l := by
  constructor
  · rw [List.Nodup, List.pairwise_map]
    exact h.imp fun hpq e => by rw [e] at hpq; omega
  · rw [List.Nodup, List.pairwise_map]
    exact h.imp fun hpq e => by rw [e] at hpq; omega
theorem steps_inj {ab : Nat → Bool} {W H : Nat} (hW : 1 ≤ W) : Inj (stepsL ab W H) := asc_inj (stepsTo_asc hW _)
theorem rowS_mem {ab : Nat → Bool} {W r : Nat} {p : Nat × Nat} : ∀ {n}, p ∈ rowS ab W r n ↔ ∃ c, c < n ∧ (p ∈ lowS ab W (r * W + c) ∨ p ∈ uppS ab W (r * W + c))
  | 0 => by simp [rowS]
  | n + 1 => by
    unfold rowS
    rw [List.mem_append, List.mem_append, rowS_mem]
    constructor
    · rintro ((⟨c, h1, h2⟩ | h) | h)
      · exact ⟨c, by omega, h2⟩
      · exact ⟨n, by omega, .inl h⟩
      · exact ⟨n, by omega, .inr h⟩
    · rintro ⟨c, h1, h2⟩
      rcases Nat.lt_succ_iff_lt_or_eq.1 h1 with g | rfl
      · exact .inl (.inl ⟨c, g, h2⟩)
      · rcases h2 with h2 | h2
        · exact .inl (.inr h2)
        · exact .inr h2
theorem stepsTo_mem {ab : Nat → Bool} {W : Nat} {p : Nat × Nat} : ∀ {n}, p ∈ stepsTo ab W n ↔ ∃ r c, r < n ∧ c < W - 1 ∧ (p ∈ lowS ab W (r * W + c) ∨ p ∈ uppS ab W (r * W + c))
  | 0 => by simp [stepsTo]
  | n + 1 => by
    unfold stepsTo
    rw [List.mem_append, stepsTo_mem, rowS_mem]
    constructor
    · rintro (⟨r, c, h1, h2⟩ | ⟨c, h1, h2⟩)
      · exact ⟨r, c, by omega, h2⟩
      · exact ⟨n, c, by omega, h1, h2⟩
    · rintro ⟨r, c, h1, h2, h3⟩
      rcases Nat.lt_succ_iff_lt_or_eq.1 h1 with g | rfl
      · exact .inl ⟨r, c, g, h2, h3⟩
      · exact .inr ⟨c, h2, h3⟩
theorem steps_mem {ab : Nat → Bool} {W H : Nat} {p : Nat × Nat} : p ∈ stepsL ab W H ↔ ∃ r c, r + 1 < H ∧ c + 1 < W ∧ (p ∈ lowS ab W (r * W + c) ∨ p ∈ uppS ab W (r * W + c)) := by
  unfold stepsL
  rw [stepsTo_mem]
  constructor
  · rintro ⟨r, c, h1, h2, h3⟩; exact ⟨r, c, by omega, by omega, h3⟩
  · rintro ⟨r, c, h1, h2, h3⟩; exact ⟨r, c, by omega, by omega, h3⟩

/-- the other end of an edge; whether there is the edge; whether it is crossed -/
def offE (W e : Nat) : Nat := if e % 3 = 0 then 1 else if e % 3 = 1 then W else W + 1
def isE (W H e : Nat) : Bool := decide (e / 3 / W < H) && (if e % 3 = 0 then decide (e / 3 % W + 1 < W) else if e % 3 = 1 then decide (e / 3 / W + 1 < H) else decide (e / 3 % W + 1 < W) && decide (e / 3 / W + 1 < H))
def crsB (ab : Nat → Bool) (W H e : Nat) : Bool := isE W H e && (ab (e / 3) != ab (e / 3 + offE W e))
theorem cell_rc {W r c : Nat} (hc : c < W) : (r * W + c) / W = r ∧ (r * W + c) % W = c := by
  constructor
  · rw [Nat.mul_comm, Nat.mul_add_div (by omega), Nat.div_eq_of_lt hc]; omega
  · rw [Nat.mul_comm, Nat.mul_add_mod, Nat.mod_eq_of_lt hc]
theorem cell_up {W r c : Nat} : r * W + c + W = (r + 1) * W + c := by rw [Nat.succ_mul]; omega
theorem isE0 {W H r c : Nat} (hr : r < H) (hc : c + 1 < W) : isE W H (3 * (r * W + c)) = true := by
  unfold isE
  rw [(n30 _).1, (n30 _).2, (cell_rc (show c < W by omega)).1, (cell_rc (show c < W by omega)).2]
  simp [hr, hc]
theorem isE1 {W H r c : Nat} (hr : r + 1 < H) (hc : c < W) : isE W H (3 * (r * W + c) + 1) = true := by
  unfold isE
  rw [(n31 _).1, (n31 _).2, (cell_rc hc).1]
  simp [hr]; omega
theorem isE2 {W H r c : Nat} (hr : r + 1 < H) (hc : c + 1 < W) : isE W H (3 * (r * W + c) + 2) = true := by
  unfold isE
  rw [(n32 _).1, (n32 _).2, (cell_rc (show c < W by omega)).1, (cell_rc (show c < W by omega)).2]
  simp [hr, hc]; omega
theorem crs0 {ab : Nat → Bool} {W H i : Nat} (h : isE W H (3 * i) = true) : crsB ab W H (3 * i) = (ab i != ab (i + 1)) := by
  unfold crsB offE; rw [h, (n30 i).1, (n30 i).2]; rfl
theorem crs1 {ab : Nat → Bool} {W H i : Nat} (h : isE W H (3 * i + 1) = true) : crsB ab W H (3 * i + 1) = (ab i != ab (i + W)) := by
  unfold crsB offE; rw [h, (n31 i).1, (n31 i).2]; rfl
theorem crs2 {ab : Nat → Bool} {W H i : Nat} (h : isE W H (3 * i + 2) = true) : crsB ab W H (3 * i + 2) = (ab i != ab (i + (W + 1))) := by
  unfold crsB offE; rw [h, (n32 i).1, (n32 i).2]; rfl
/-- the edges of a triangle that give a step are crossed -/
theorem low_crs {ab : Nat → Bool} {W H r c : Nat} (hr : r + 1 < H) (hc : c + 1 < W) {p : Nat × Nat} (h : p ∈ lowS ab W (r * W + c)) : crsB ab W H p.1 = true ∧ crsB ab W H p.2 = true := by
  have e0 := crs0 (ab := ab) (isE0 (H := H) (r := r) (c := c) (show r < H by omega) hc)
  have e1 := crs1 (ab := ab) (isE1 (H := H) (r := r) (c := c + 1) hr hc)
  have e2 := crs2 (ab := ab) (isE2 (H := H) (r := r) (c := c) hr hc)
  rw [← Nat.add_assoc] at e1 e2
  rw [show r * W + c + 1 + W = r * W + c + W + 1 by omega] at e1
  generalize r * W + c = i at *
  unfold lowS triS at h
  rcases hA : ab i <;> rcases hB : ab (i + 1) <;> rcases hC : ab (i + W + 1) <;> rw [hA, hB, hC] at h <;> simp only [List.not_mem_nil, List.mem_singleton] at h <;> subst h <;> dsimp only <;>
    simp only [e0, e1, e2, hA, hB, hC] <;> decide
theorem upp_crs {ab : Nat → Bool} {W H r c : Nat} (hr : r + 1 < H) (hc : c + 1 < W) {p : Nat × Nat} (h : p ∈ uppS ab W (r * W + c)) : crsB ab W H p.1 = true ∧ crsB ab W H p.2 = true := by
  have e0 := crs0 (ab := ab) (isE0 (H := H) (r := r + 1) (c := c) hr hc)
  have e1 := crs1 (ab := ab) (isE1 (H := H) (r := r) (c := c) hr (show c < W by omega))
  have e2 := crs2 (ab := ab) (isE2 (H := H) (r := r) (c := c) hr hc)
  rw [← cell_up] at e0
  rw [← Nat.add_assoc] at e2
  generalize r * W + c = i at *
  unfold uppS triS at h
  rcases hA : ab i <;> rcases hB : ab (i + W + 1) <;> rcases hC : ab (i + W) <;> rw [hA, hB, hC] at h <;> simp only [List.not_mem_nil, List.mem_singleton] at h <;> subst h <;> dsimp only <;>
    simp only [e0, e1, e2, hA, hB, hC] <;> decide
theorem steps_crs {ab : Nat → Bool} {W H : Nat} {p : Nat × Nat} (h : p ∈ stepsL ab W H) : crsB ab W H p.1 = true ∧ crsB ab W H p.2 = true := by
  obtain ⟨r, c, h1, h2, h3 | h3⟩ := steps_mem.1 h
  · exact low_crs h1 h2 h3
  · exact upp_crs h1 h2 h3
theorem crs_lt {ab : Nat → Bool} {W H e : Nat} (h : crsB ab W H e = true) : e < 3 * W * H := by
  unfold crsB isE at h
  rw [Bool.and_eq_true, Bool.and_eq_true, decide_eq_true_eq] at h
  have h1 : e / 3 < H * W := by
    rcases Nat.eq_zero_or_pos W with rfl | hW
    · have := h.1.2
      split at this
      · simp at this
      · split at this
        · have h2 := h.2
          unfold offE at h2
          rename_i g1 g2
          rw [if_neg g1, if_pos g2, Nat.add_zero] at h2
          simp at h2
        · simp at this
    · exact (Nat.div_lt_iff_lt_mul hW).1 h.1.1
  have h2 : 3 * (H * W) = 3 * W * H := by rw [Nat.mul_comm H W, Nat.mul_assoc]
  omega
def crsL (ab : Nat → Bool) (W H : Nat) : List Nat := (List.range (3 * W * H)).filter (crsB ab W H)
end Go.Proofs.Mp
/- Plain: parities. Where all chains are cycles, their pairs are the steps, each once. No program is named here. -/
set_option linter.unusedVariables false
set_option linter.unusedSimpArgs false
namespace Go.Proofs.Mp

/-- whether an odd number of a list's elements has a property -/
def oddL {α : Type} (φ : α → Bool) : List α → Bool
  | [] => false
  | a :: l => φ a ^^ oddL φ l
theorem oddL_app {α : Type} (φ : α → Bool) : ∀ a b : List α, oddL φ (a ++ b) = (oddL φ a ^^ oddL φ b)
  | [], b => by simp [oddL]
  | x :: a, b => by rw [List.cons_append, oddL, oddL, oddL_app φ a b, Bool.xor_assoc]
theorem oddL_perm {α : Type} (φ : α → Bool) {a b : List α} (h : a.Perm b) : oddL φ a = oddL φ b := by
  induction h with
  | nil => rfl
  | cons x _ ih => rw [oddL, oddL, ih]
  | swap x y l => rw [oddL, oddL, oddL, oddL, ← Bool.xor_assoc, ← Bool.xor_assoc, Bool.xor_comm (φ y)]
  | trans _ _ h1 h2 => exact h1.trans h2
theorem oddL_map {α β : Type} (φ : β → Bool) (f : α → β) : ∀ l : List α, oddL φ (l.map f) = oddL (fun x => φ (f x)) l
  | [] => rfl
  | x :: l => by rw [List.map_cons, oddL, oddL, oddL_map φ f l]
theorem oddL_flat {α β : Type} (φ : β → Bool) (f : α → List β) : ∀ l : List α, oddL φ (l.flatMap f) = oddL (fun x => oddL φ (f x)) l
  | [] => rfl
  | x :: l => by rw [List.flatMap_cons, oddL, oddL_app, oddL_flat φ f l]
theorem oddL_congr {α : Type} {φ ψ : α → Bool} : ∀ {l : List α}, (∀ x ∈ l, φ x = ψ x) → oddL φ l = oddL ψ l
  | [], _ => rfl
  | x :: l, h => by rw [oddL, oddL, h x List.mem_cons_self, oddL_congr fun y hy => h y (List.mem_cons_of_mem _ hy)]
theorem oddL_false {α : Type} {φ : α → Bool} : ∀ {l : List α}, (∀ x ∈ l, φ x = false) → oddL φ l = false
  | [], _ => rfl
  | x :: l, h => by rw [oddL, h x List.mem_cons_self, oddL_false fun y hy => h y (List.mem_cons_of_mem _ hy)]; rfl
/-- the number of those elements -/
theorem oddL_count {α : Type} (φ : α → Bool) : ∀ l : List α, oddL φ l = decide ((l.filter φ).length % 2 = 1)
  | [] => rfl
  | x :: l => by
    rw [oddL, oddL_count φ l]
    cases h : φ x
    · rw [List.filter_cons_of_neg (by rw [h]; decide)]; simp
    · rw [List.filter_cons_of_pos h, List.length_cons]
      rw [Bool.eq_iff_iff]
      simp
      omega
/-- the edges of a cyclic chain but the last one -/
def cyc (S : List (Nat × Nat)) (e : Nat) : List Nat := (chain S e).dropLast
theorem cyc_way {S : List (Nat × Nat)} (hS : Inj S) {e : Nat} (h : home S e) : ∃ j c, itr S e j = some c ∧ NoHome S e j ∧ nx S c = some e ∧ chain S e = wayL S e j ++ [e] ∧ cyc S e = wayL S e j := by
  obtain ⟨j, c, hc, hn, hl, hk | hk⟩ := chain_cases hS e
  · exfalso
    obtain ⟨h1, h2⟩ := (chain_last hS).2 h
    rw [chain_end hS hc hn hk, wayL_len] at h1 h2
    rw [getElem!_def, wayL_get (by omega), Nat.add_sub_cancel, hc] at h2
    have h2 : c = e := h2
    exact hn j (by omega) (Nat.le_refl _) (by rw [hc, h2])
  · have e1 := chain_home hS hc hn hk
    rw [wayL_next hc hk] at e1
    exact ⟨j, c, hc, hn, hk, e1, by unfold cyc; rw [e1, List.dropLast_concat]⟩
theorem way_nodup {S : List (Nat × Nat)} (hS : Inj S) {e j c : Nat} (hc : itr S e j = some c) (hn : NoHome S e j) : (wayL S e j).Nodup := by
  unfold wayL
  rw [List.Nodup, List.pairwise_map, List.pairwise_iff_getElem]
  intro a b ha hb hlt hab
  rw [List.length_range] at ha hb
  rw [List.getElem_range, List.getElem_range] at hab
  obtain ⟨x, hx⟩ := itr_le hc a (by omega)
  obtain ⟨y, hy⟩ := itr_le hc b (by omega)
  rw [hx, hy] at hab
  dsimp only [Option.getD_some] at hab
  subst hab
  exact itr_apart hS (n := j) hn hlt (by omega) hx hy
theorem cyc_mem {S : List (Nat × Nat)} (hS : Inj S) {e : Nat} (h : home S e) {x : Nat} : x ∈ cyc S e ↔ reach S e x := by
  obtain ⟨j, c, hc, hn, hk, h1, h2⟩ := cyc_way hS h
  rw [h2, ← chain_mem hS, h1, List.mem_append, List.mem_singleton]
  constructor
  · exact .inl
  · rintro (g | rfl)
    · exact g
    · exact (wayL_mem hc).2 ⟨0, Nat.zero_le _, rfl⟩
theorem cyc_nodup {S : List (Nat × Nat)} (hS : Inj S) {e : Nat} (h : home S e) : (cyc S e).Nodup := by
  obtain ⟨j, c, hc, hn, hk, h1, h2⟩ := cyc_way hS h
  rw [h2]
  exact way_nodup hS hc hn
theorem dom_mem {S : List (Nat × Nat)} {x : Nat} : dom S x = true ↔ x ∈ S.map Prod.fst := by
  unfold dom nx
  rw [Option.isSome_map, List.find?_isSome, List.mem_map]
  constructor
  · rintro ⟨p, hp, he⟩; exact ⟨p, hp, by simpa using he⟩
  · rintro ⟨p, hp, he⟩; exact ⟨p, hp, by simpa using he⟩
/-- where no chain is open, the cycles' edges are the steps' first edges -/
theorem cyc_perm {S : List (Nat × Nat)} (hS : Inj S) {N : Nat} (hN : Lim S N) (hno : ∀ e, start S e = false) : (((List.range N).filter (repB S)).flatMap (cyc S)).Perm (S.map Prod.fst) := by
  have hrep : ∀ e ∈ (List.range N).filter (repB S), cycB S e = true := by
    intro e he
    have := (List.mem_filter.1 he).2
    unfold repB at this
    rwa [hno e, Bool.false_or] at this
  rw [List.perm_ext_iff_of_nodup]
  · intro x
    rw [List.mem_flatMap, ← dom_mem]
    constructor
    · rintro ⟨e, he, hx⟩
      have hh := ((cycB_iff hS).1 (hrep e he)).1
      exact (hh.fwd ((cyc_mem hS hh).1 hx)).dom
    · intro hd
      have hh : home S x := Classical.byContradiction fun hh => by
        obtain ⟨s, h1, _⟩ := start_of hS hd hh
        rw [hno s] at h1; cases h1
      obtain ⟨m, h1, h2, h3⟩ := least_of hS hh
      have hm := ((cycB_iff hS).1 h1).1
      refine ⟨m, List.mem_filter.2 ⟨List.mem_range.2 ?_, by unfold repB; rw [h1, Bool.or_true]⟩, (cyc_mem hS hm).2 (hh.back h2)⟩
      exact Nat.lt_of_le_of_lt h3 (hN x hd)
  · rw [List.Nodup, List.pairwise_flatMap]
    refine ⟨fun e he => cyc_nodup hS ((cycB_iff hS).1 (hrep e he)).1, ?_⟩
    have hp : ((List.range N).filter (repB S)).Pairwise (· < ·) := List.pairwise_lt_range.filter _
    refine hp.imp_of_mem fun {a b} ha hb hlt x hx y hy hxy => ?_
    subst hxy
    obtain ⟨h1, m1⟩ := (cycB_iff hS).1 (hrep a ha)
    obtain ⟨h2, m2⟩ := (cycB_iff hS).1 (hrep b hb)
    have r1 := (cyc_mem hS h1).1 hx
    have r2 := (cyc_mem hS h2).1 hy
    have := m2 a (r2.trans (h1.back r1))
    omega
  · exact hS.f
/-- the pairs of a chain, told by the chain's positions -/
theorem cyc_pairs {S : List (Nat × Nat)} (hS : Inj S) {e : Nat} (h : home S e) (ω : Nat → Nat → Bool) :
    oddL (fun i => ω (chain S e)[i]! (chain S e)[i + 1]!) (List.range ((chain S e).length - 1)) = oddL (fun x => ω x ((nx S x).getD 0)) (cyc S e) := by
  obtain ⟨j, c, hc, hn, hk, h1, h2⟩ := cyc_way hS h
  have hj1 : itr S e (j + 1) = some e := itr_succ.2 ⟨c, hc, hk⟩
  have h3 : chain S e = wayL S e (j + 1) := by rw [h1, wayL_next hc hk]
  rw [h2, h3, wayL_len]
  unfold wayL
  rw [oddL_map, Nat.add_sub_cancel]
  apply oddL_congr
  intro i hi
  have hi := List.mem_range.1 hi
  obtain ⟨x, hx⟩ := itr_le hj1 i (by omega)
  obtain ⟨y, hy⟩ := itr_le hj1 (i + 1) (by omega)
  obtain ⟨x', hx', hxy⟩ := itr_succ.1 hy
  rw [hx] at hx'
  injection hx' with hx'
  subst hx'
  have g1 : ((List.range (j + 1 + 1)).map fun i => (itr S e i).getD 0)[i]! = x := by
    rw [getElem!_def, List.getElem?_map, List.getElem?_range (by omega)]
    simp [hx]
  have g2 : ((List.range (j + 1 + 1)).map fun i => (itr S e i).getD 0)[i + 1]! = y := by
    rw [getElem!_def, List.getElem?_map, List.getElem?_range (by omega)]
    simp [hy]
  rw [g1, g2, hx]
  dsimp only [Option.getD_some]
  rw [hxy]
  rfl
theorem oddL_steps {S : List (Nat × Nat)} (hS : Inj S) (ω : Nat → Nat → Bool) : oddL (fun x => ω x ((nx S x).getD 0)) (S.map Prod.fst) = oddL (fun p => ω p.1 p.2) S := by
  rw [oddL_map]
  apply oddL_congr
  intro p hp
  rw [(nx_mem hS (e := p.1) (k := p.2)).2 hp]
  rfl
/-- all chains together have the steps' parity -/
theorem odd_chains {S : List (Nat × Nat)} (hS : Inj S) {N : Nat} (hN : Lim S N) (hno : ∀ e, start S e = false) (ω : Nat → Nat → Bool) :
    oddL (fun c : List Nat => oddL (fun i => ω c[i]! c[i + 1]!) (List.range (c.length - 1))) (chainsL S N) = oddL (fun p => ω p.1 p.2) S := by
  rw [← oddL_steps hS, ← oddL_perm _ (cyc_perm hS hN hno), oddL_flat]
  unfold chainsL
  rw [oddL_map]
  apply oddL_congr
  intro e he
  have hc : cycB S e = true := by
    have := (List.mem_filter.1 he).2
    unfold repB at this
    rwa [hno e, Bool.false_or] at this
  exact cyc_pairs hS ((cycB_iff hS).1 hc).1 ω
end Go.Proofs.Mp
/- Plain: the parity of the steps in a row of cells. No program is named here. -/
set_option linter.unusedVariables false
set_option linter.unusedSimpArgs false
namespace Go.Proofs.Mp

/-- a triangle's step, told by its corners -/
theorem tri_odd (G : Nat → Bool) (A B C : Bool) (p q r : Nat) :
    oddL (fun s => G s.1 ^^ G s.2) (triS A B C p q r) = (((A != B) && G p) ^^ ((B != C) && G q) ^^ ((C != A) && G r)) := by
  cases A <;> cases B <;> cases C <;> simp [triS, oddL] <;> cases G p <;> cases G q <;> cases G r <;> rfl
def hzB (ab G : Nat → Bool) (i : Nat) : Bool := (ab i != ab (i + 1)) && G (3 * i)
def vtB (ab G : Nat → Bool) (W i : Nat) : Bool := (ab i != ab (i + W)) && G (3 * i + 1)
theorem cell_odd (ab G : Nat → Bool) (W i : Nat) :
    (oddL (fun s => G s.1 ^^ G s.2) (lowS ab W i) ^^ oddL (fun s => G s.1 ^^ G s.2) (uppS ab W i)) = (hzB ab G i ^^ hzB ab G (i + W) ^^ vtB ab G W i ^^ vtB ab G W (i + 1)) := by
  unfold lowS uppS
  rw [tri_odd, tri_odd]
  unfold hzB vtB
  rw [show i + W + 1 = i + 1 + W by omega]
  cases ab i <;> cases ab (i + 1) <;> cases ab (i + W) <;> cases ab (i + 1 + W) <;> cases G (3 * i) <;> cases G (3 * i + 2) <;> cases G (3 * i + 1) <;> cases G (3 * (i + 1) + 1) <;> cases G (3 * (i + W)) <;> rfl
theorem row_odd (ab G : Nat → Bool) (W r : Nat) : ∀ n,
    oddL (fun s => G s.1 ^^ G s.2) (rowS ab W r n) = (oddL (fun c => hzB ab G (r * W + c)) (List.range n) ^^ oddL (fun c => hzB ab G (r * W + c + W)) (List.range n) ^^ vtB ab G W (r * W) ^^ vtB ab G W (r * W + n))
  | 0 => by simp [rowS, oddL]
  | n + 1 => by
    have h1 : ∀ φ : Nat → Bool, oddL φ (List.range (n + 1)) = (oddL φ (List.range n) ^^ φ n) := fun φ => by
      rw [List.range_succ, oddL_app, oddL, oddL, Bool.xor_false]
    rw [h1, h1, rowS, oddL_app, oddL_app, Bool.xor_assoc, cell_odd, row_odd ab G W r n]
    rw [show r * W + (n + 1) = r * W + n + 1 by omega]
    generalize oddL (fun c => hzB ab G (r * W + c)) (List.range n) = a
    generalize oddL (fun c => hzB ab G (r * W + c + W)) (List.range n) = b
    generalize vtB ab G W (r * W) = c
    generalize vtB ab G W (r * W + n) = d
    generalize hzB ab G (r * W + n) = e
    generalize hzB ab G (r * W + n + W) = f
    generalize vtB ab G W (r * W + n + 1) = g
    cases a <;> cases b <;> cases c <;> cases d <;> cases e <;> cases f <;> cases g <;> rfl
theorem tele (ab : Nat → Bool) (k c0 : Nat) : ∀ n, oddL (fun c => (ab (k + c) != ab (k + c + 1)) && decide (c0 ≤ c)) (List.range n) = (decide (c0 ≤ n) && (ab (k + c0) ^^ ab (k + n)))
  | 0 => by
    rw [List.range_zero, oddL]
    rcases Nat.eq_zero_or_pos c0 with rfl | h
    · simp
    · rw [decide_eq_false (by omega : ¬ c0 ≤ 0), Bool.false_and]
  | n + 1 => by
    rw [List.range_succ, oddL_app, tele ab k c0 n, oddL, oddL, Bool.xor_false, show k + (n + 1) = k + n + 1 by omega]
    rcases Nat.lt_trichotomy c0 (n + 1) with h | rfl | h
    · rw [decide_eq_true (by omega : c0 ≤ n), decide_eq_true (by omega : c0 ≤ n + 1)]
      cases ab (k + c0) <;> cases ab (k + n) <;> cases ab (k + n + 1) <;> rfl
    · rw [decide_eq_false (by omega : ¬ n + 1 ≤ n), decide_eq_true (Nat.le_refl _), show k + (n + 1) = k + n + 1 by omega]
      cases ab (k + n) <;> cases ab (k + n + 1) <;> rfl
    · rw [decide_eq_false (by omega : ¬ c0 ≤ n), decide_eq_false (by omega : ¬ c0 ≤ n + 1)]
      cases ab (k + n) <;> cases ab (k + n + 1) <;> rfl
/-- the parity of a row's steps, where the row's upper edges do not count, its ends are not above, and of its lower edges those from c0 on count -/
theorem row_par (ab G : Nat → Bool) (W r c0 : Nat) (h0 : vtB ab G W (r * W) = false) (hW : vtB ab G W (r * W + (W - 1)) = false) (ht : ∀ c, c < W - 1 → hzB ab G (r * W + c + W) = false)
    (hb : ∀ c, c < W - 1 → hzB ab G (r * W + c) = ((ab (r * W + c) != ab (r * W + c + 1)) && decide (c0 ≤ c))) (hc : c0 ≤ W - 1) :
    oddL (fun s => G s.1 ^^ G s.2) (rowS ab W r (W - 1)) = (ab (r * W + c0) ^^ ab (r * W + (W - 1))) := by
  rw [row_odd, h0, hW, oddL_false (φ := fun c => hzB ab G (r * W + c + W)) (fun c hc => ht c (List.mem_range.1 hc)), oddL_congr (fun c hc => hb c (List.mem_range.1 hc)), tele, decide_eq_true hc]
  simp
/-- the parity of all steps: one row counts -/
theorem steps_par (ab : Nat → Bool) (ω : Nat × Nat → Bool) (W r0 : Nat) (X : Bool) :
    ∀ n, (∀ r, r < n → r ≠ r0 → oddL ω (rowS ab W r (W - 1)) = false) → (r0 < n → oddL ω (rowS ab W r0 (W - 1)) = X) → oddL ω (stepsTo ab W n) = (decide (r0 < n) && X)
  | 0, _, _ => by simp [stepsTo, oddL]
  | n + 1, hr, h0 => by
    rw [stepsTo, oddL_app, steps_par ab ω W r0 X n (fun r h1 h2 => hr r (by omega) h2) (fun h => h0 (by omega))]
    by_cases h : n = r0
    · subst h; rw [h0 (by omega), decide_eq_false (by omega : ¬ n < n), decide_eq_true (by omega : n < n + 1)]; simp
    · rw [hr n (by omega) h, Bool.xor_false]
      congr 1
      rw [decide_eq_decide]
      omega
/-- a step's edges are crossed edges of its triangle -/
theorem tri_mem {A B C : Bool} {p q r : Nat} {s : Nat × Nat} (h : s ∈ triS A B C p q r) : (s.1 = p ∨ s.1 = q ∨ s.1 = r) ∧ (s.2 = p ∨ s.2 = q ∨ s.2 = r) := by
  unfold triS at h
  split at h <;> simp at h <;> subst h <;> simp
end Go.Proofs.Mp
