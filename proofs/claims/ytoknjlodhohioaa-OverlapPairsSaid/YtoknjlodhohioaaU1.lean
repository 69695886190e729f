/- Plain facts of a forest of parents, and of what is linked by it. No program is named here. -/
import Derived.WalkKit
set_option linter.unusedVariables false
set_option linter.unusedSimpArgs false
namespace Go.Proofs.Uf

/-- p with the parent of x set to y -/
def upd (p : Int → Int) (x y : Int) : Int → Int := fun z => if z = x then y else p z
theorem upd_same (p : Int → Int) (x y : Int) : upd p x y x = y := by simp [upd]
theorem upd_ne (p : Int → Int) (x y : Int) {z : Int} (h : z ≠ x) : upd p x y z = p z := by simp [upd, h]

/-- r is reached from x by parents, and is its own parent -/
inductive Root (p : Int → Int) : Int → Int → Prop
  | here {x : Int} : p x = x → Root p x x
  | step {x r : Int} : p x ≠ x → Root p (p x) r → Root p x r

/-- every feature's parent is a feature, and no greater -/
def Inv (F : List Int) (p : Int → Int) : Prop := ∀ x ∈ F, p x ∈ F ∧ p x ≤ x

section
variable {p : Int → Int} {F : List Int}

theorem Root.self {x r : Int} (h : Root p x r) : p r = r := by
  induction h with
  | here h => exact h
  | step _ _ ih => exact ih
theorem Root.unique {x r s : Int} (h : Root p x r) (g : Root p x s) : r = s := by
  induction h with
  | here h =>
    cases g with
    | here _ => rfl
    | step h' _ => exact absurd h h'
  | step h _ ih =>
    cases g with
    | here h' => exact absurd h' h
    | step _ g => exact ih g
theorem Root.le {x r : Int} (hI : Inv F p) (hx : x ∈ F) (h : Root p x r) : r ∈ F ∧ r ≤ x := by
  induction h with
  | here h => exact ⟨hx, Int.le_refl _⟩
  | step h _ ih =>
    obtain ⟨h1, h2⟩ := hI _ hx
    obtain ⟨h3, h4⟩ := ih h1
    exact ⟨h3, by omega⟩
theorem Root.ex (hI : Inv F p) (lo : Int) (hlo : ∀ x ∈ F, lo ≤ x) : ∀ (n : Nat) (x : Int), x ∈ F → (x - lo).toNat ≤ n → ∃ r, Root p x r := by
  intro n
  induction n with
  | zero =>
    intro x hx hn
    obtain ⟨h1, h2⟩ := hI x hx
    have := hlo x hx
    have := hlo _ h1
    exact ⟨x, .here (by omega)⟩
  | succ n ih =>
    intro x hx hn
    obtain ⟨h1, h2⟩ := hI x hx
    by_cases he : p x = x
    · exact ⟨x, .here he⟩
    · have := hlo x hx
      have := hlo _ h1
      obtain ⟨r, hr⟩ := ih (p x) h1 (by omega)
      exact ⟨r, .step he hr⟩
theorem Inv.halve (hI : Inv F p) {x : Int} (hx : x ∈ F) : Inv F (upd p x (p (p x))) := by
  intro y hy
  by_cases h : y = x
  · subst h
    rw [upd_same]
    obtain ⟨h1, h2⟩ := hI y hy
    obtain ⟨h3, h4⟩ := hI _ h1
    exact ⟨h3, by omega⟩
  · rw [upd_ne _ _ _ h]; exact hI y hy
theorem Root.halve (hI : Inv F p) {x : Int} (hx : x ∈ F) {y r : Int} (hy : y ∈ F) (h : Root p y r) : Root (upd p x (p (p x))) y r := by
  induction h with
  | here h =>
    rename_i y
    refine .here ?_
    by_cases he : y = x
    · subst he; rw [upd_same, h, h]
    · rw [upd_ne _ _ _ he, h]
  | step hne _ ih =>
    rename_i y r _h
    obtain ⟨h1, h2⟩ := hI y hy
    have ih := ih h1
    by_cases he : y = x
    · subst he
      have h3 := (hI _ h1).2
      have hpx : p y ≠ y := hne
      refine .step (by rw [upd_same]; omega) ?_
      rw [upd_same]
      by_cases h4 : p (p y) = p y
      · rwa [h4] at ih ⊢
      · have e : upd p y (p (p y)) (p y) = p (p y) := upd_ne _ _ _ hpx
        cases ih with
        | here h' => rw [e] at h'; exact absurd h' h4
        | step _ g => rwa [e] at g
    · have e : upd p x (p (p x)) y = p y := upd_ne _ _ _ he
      exact .step (by rw [e]; exact hne) (by rw [e]; exact ih)
theorem Inv.link (hI : Inv F p) {u v : Int} (hu : u ∈ F) (huv : u ≤ v) : Inv F (upd p v u) := by
  intro y hy
  by_cases h : y = v
  · subst h; rw [upd_same]; exact ⟨hu, huv⟩
  · rw [upd_ne _ _ _ h]; exact hI y hy
theorem Root.link {u v : Int} (hu : p u = u) (hv : p v = v) {y r : Int} (h : Root p y r) : Root (upd p v u) y (if r = v then u else r) := by
  by_cases huv : u = v
  · subst huv
    have e : upd p u u = p := by
      funext z
      by_cases hz : z = u
      · subst hz; rw [upd_same, hu]
      · rw [upd_ne _ _ _ hz]
    rw [e]
    split
    · rename_i h'; rwa [← h']
    · exact h
  · have hroot : Root (upd p v u) u u := .here (by rw [upd_ne _ _ _ huv, hu])
    induction h with
    | here h =>
      rename_i y
      by_cases he : y = v
      · rw [if_pos he]
        subst he
        exact .step (by rw [upd_same]; exact huv) (by rw [upd_same]; exact hroot)
      · rw [if_neg he]; exact .here (by rw [upd_ne _ _ _ he, h])
    | step hne _ ih =>
      rename_i y r _h
      have he : y ≠ v := fun e => hne (by rw [e, hv])
      have e : upd p v u y = p y := upd_ne _ _ _ he
      exact .step (by rw [e]; exact hne) (by rw [e]; exact ih)
end

/-- x and y are linked by the pairs of E -/
inductive Conn (E : Int → Int → Prop) : Int → Int → Prop
  | refl (x : Int) : Conn E x x
  | edge {x y z : Int} : E x y → Conn E y z → Conn E x z
  | back {x y z : Int} : E y x → Conn E y z → Conn E x z
section
variable {E E' : Int → Int → Prop}
theorem Conn.trans {x y z : Int} (h : Conn E x y) (g : Conn E y z) : Conn E x z := by
  induction h with
  | refl _ => exact g
  | edge e _ ih => exact .edge e (ih g)
  | back e _ ih => exact .back e (ih g)
theorem Conn.symm {x y : Int} (h : Conn E x y) : Conn E y x := by
  induction h with
  | refl _ => exact .refl _
  | edge e _ ih => exact ih.trans (.back e (.refl _))
  | back e _ ih => exact ih.trans (.edge e (.refl _))
theorem Conn.mono (hE : ∀ x y, E x y → Conn E' x y) {x y : Int} (h : Conn E x y) : Conn E' x y := by
  induction h with
  | refl _ => exact .refl _
  | edge e _ ih => exact (hE _ _ e).trans ih
  | back e _ ih => exact (hE _ _ e).symm.trans ih
/-- one more pair -/
def more (E : Int → Int → Prop) (a b : Int) : Int → Int → Prop := fun x y => E x y ∨ (x = a ∧ y = b)
theorem Conn.more_iff {a b x y : Int} : Conn (more E a b) x y ↔ Conn E x y ∨ (Conn E x a ∧ Conn E b y) ∨ (Conn E x b ∧ Conn E a y) := by
  constructor
  · intro h
    induction h with
    | refl x => exact .inl (.refl x)
    | edge e _ ih =>
      rename_i x y z
      rcases e with e | ⟨rfl, rfl⟩
      · rcases ih with h | ⟨h1, h2⟩ | ⟨h1, h2⟩
        · exact .inl (.edge e h)
        · exact .inr (.inl ⟨.edge e h1, h2⟩)
        · exact .inr (.inr ⟨.edge e h1, h2⟩)
      · rcases ih with h | ⟨h1, h2⟩ | ⟨h1, h2⟩
        · exact .inr (.inl ⟨.refl _, h⟩)
        · exact .inr (.inl ⟨.refl _, h2⟩)
        · exact .inl h2
    | back e _ ih =>
      rename_i x y z
      rcases e with e | ⟨rfl, rfl⟩
      · rcases ih with h | ⟨h1, h2⟩ | ⟨h1, h2⟩
        · exact .inl (.back e h)
        · exact .inr (.inl ⟨.back e h1, h2⟩)
        · exact .inr (.inr ⟨.back e h1, h2⟩)
      · rcases ih with h | ⟨h1, h2⟩ | ⟨h1, h2⟩
        · exact .inr (.inr ⟨.refl _, h⟩)
        · exact .inl h2
        · exact .inr (.inr ⟨.refl _, h2⟩)
  · have hm : ∀ x y, Conn E x y → Conn (more E a b) x y := fun x y h => h.mono fun x y e => .edge (.inl e) (.refl _)
    rintro (h | ⟨h1, h2⟩ | ⟨h1, h2⟩)
    · exact hm _ _ h
    · exact (hm _ _ h1).trans (.edge (.inr ⟨rfl, rfl⟩) (hm _ _ h2))
    · exact (hm _ _ h1).trans (.back (.inr ⟨rfl, rfl⟩) (hm _ _ h2))
end

/-- two features have one root exactly if they are linked -/
def Sound (F : List Int) (p : Int → Int) (E : Int → Int → Prop) : Prop := ∀ x ∈ F, ∀ y ∈ F, ∀ r s, Root p x r → Root p y s → (r = s ↔ Conn E x y)

theorem Sound.start (F : List Int) (p : Int → Int) (hp : ∀ x ∈ F, p x = x) : Sound F p (fun _ _ => False) := by
  intro x hx y hy r s h g
  obtain rfl := h.unique (.here (hp x hx))
  obtain rfl := g.unique (.here (hp y hy))
  constructor
  · rintro rfl; exact .refl _
  · intro h
    cases h with
    | refl => rfl
    | edge e _ => exact e.elim
    | back e _ => exact e.elim
theorem Sound.keep {F : List Int} {p q : Int → Int} {E : Int → Int → Prop} (h : Sound F p E) (hq : ∀ x ∈ F, ∀ r, Root p x r → Root q x r) (hex : ∀ x ∈ F, ∃ r, Root p x r) : Sound F q E := by
  intro x hx y hy r s h1 h2
  obtain ⟨r', hr'⟩ := hex x hx
  obtain ⟨s', hs'⟩ := hex y hy
  obtain rfl := (hq x hx _ hr').unique h1
  obtain rfl := (hq y hy _ hs').unique h2
  exact h x hx y hy _ _ hr' hs'
theorem Sound.same {F : List Int} {p : Int → Int} {E : Int → Int → Prop} (h : Sound F p E) {E' : Int → Int → Prop} (hE : ∀ x y, Conn E x y ↔ Conn E' x y) : Sound F p E' := by
  intro x hx y hy r s h1 h2
  rw [← hE]
  exact h x hx y hy r s h1 h2
theorem Sound.link {F : List Int} {p : Int → Int} {E : Int → Int → Prop} (h : Sound F p E) (hex : ∀ x ∈ F, ∃ r, Root p x r) {a b u v m n : Int} (ha : a ∈ F) (hb : b ∈ F) (hu : Root p a u) (hv : Root p b v)
    (hmn : (m = u ∧ n = v) ∨ (m = v ∧ n = u)) : Sound F (upd p n m) (more E a b) := by
  intro x hx y hy r s h1 h2
  obtain ⟨r', hr'⟩ := hex x hx
  obtain ⟨s', hs'⟩ := hex y hy
  have hm : p m = m := by rcases hmn with ⟨rfl, rfl⟩ | ⟨rfl, rfl⟩ <;> first | exact hu.self | exact hv.self
  have hn : p n = n := by rcases hmn with ⟨rfl, rfl⟩ | ⟨rfl, rfl⟩ <;> first | exact hu.self | exact hv.self
  obtain rfl := (hr'.link hm hn).unique h1
  obtain rfl := (hs'.link hm hn).unique h2
  have cxy := h x hx y hy _ _ hr' hs'
  have cxa := h x hx a ha _ _ hr' hu
  have cxb := h x hx b hb _ _ hr' hv
  have cay := h a ha y hy _ _ hu hs'
  have cby := h b hb y hy _ _ hv hs'
  rw [Conn.more_iff, ← cxy, ← cxa, ← cxb, ← cay, ← cby]
  rcases hmn with ⟨rfl, rfl⟩ | ⟨rfl, rfl⟩
  · by_cases e1 : r' = n <;> by_cases e2 : s' = n <;> simp only [e1, e2, if_true, if_false]
    · simp
    · constructor
      · intro e; exact .inr (.inr ⟨trivial, e⟩)
      · rintro (e | ⟨_, e⟩ | ⟨_, e⟩)
        · exact absurd e.symm e2
        · exact absurd e.symm e2
        · exact e
    · constructor
      · intro e; exact .inr (.inl ⟨e, trivial⟩)
      · rintro (e | ⟨e, _⟩ | ⟨e, _⟩)
        · exact e.elim
        · exact e
        · exact e.elim
    · constructor
      · intro e; exact .inl e
      · rintro (e | ⟨_, e⟩ | ⟨e, _⟩)
        · exact e
        · exact absurd e.symm e2
        · exact e.elim
  · by_cases e1 : r' = n <;> by_cases e2 : s' = n <;> simp only [e1, e2, if_true, if_false]
    · simp
    · constructor
      · intro e; exact .inr (.inl ⟨trivial, e⟩)
      · rintro (e | ⟨_, e⟩ | ⟨_, e⟩)
        · exact absurd e.symm e2
        · exact e
        · exact absurd e.symm e2
    · constructor
      · intro e; exact .inr (.inr ⟨e, trivial⟩)
      · rintro (e | ⟨e, _⟩ | ⟨e, _⟩)
        · exact e.elim
        · exact e.elim
        · exact e
    · constructor
      · intro e; exact .inl e
      · rintro (e | ⟨e, _⟩ | ⟨_, e⟩)
        · exact e
        · exact e.elim
        · exact absurd e.symm e2

/-- the parents p lead each feature x to ρ x -/
def UF (F : List Int) (p ρ : Int → Int) : Prop := Inv F p ∧ ∀ x ∈ F, Root p x (ρ x)
section
variable {F : List Int} {p ρ : Int → Int}
theorem UF.mem (h : UF F p ρ) {x : Int} (hx : x ∈ F) : ρ x ∈ F ∧ ρ x ≤ x := (h.2 x hx).le h.1 hx
theorem UF.self (h : UF F p ρ) {x : Int} (hx : x ∈ F) : p (ρ x) = ρ x := (h.2 x hx).self
theorem UF.idem (h : UF F p ρ) {x : Int} (hx : x ∈ F) : ρ (ρ x) = ρ x := (h.2 _ (h.mem hx).1).unique (.here (h.self hx))
theorem UF.here (h : UF F p ρ) {x : Int} (hx : x ∈ F) (hp : p x = x) : ρ x = x := (h.2 x hx).unique (.here hp)
theorem UF.up (h : UF F p ρ) {x : Int} (hx : x ∈ F) : ρ (p x) = ρ x := by
  by_cases hp : p x = x
  · rw [hp]
  · have h1 := h.2 x hx
    generalize ρ x = r at h1
    cases h1 with
    | here h' => exact absurd h' hp
    | step _ g => exact (h.2 _ (h.1 x hx).1).unique g
theorem UF.halve (h : UF F p ρ) {x : Int} (hx : x ∈ F) : UF F (upd p x (p (p x))) ρ := ⟨h.1.halve hx, fun y hy => (h.2 y hy).halve h.1 hx hy⟩
/-- the root n is hung on the root m -/
def join (ρ : Int → Int) (n m : Int) : Int → Int := fun y => if ρ y = n then m else ρ y
theorem UF.link (h : UF F p ρ) {m n : Int} (hm : m ∈ F) (hpm : p m = m) (hpn : p n = n) (hmn : m ≤ n) : UF F (upd p n m) (join ρ n m) :=
  ⟨h.1.link hm hmn, fun y hy => (h.2 y hy).link hpm hpn⟩
theorem UF.start (F : List Int) (p : Int → Int) (hp : ∀ x ∈ F, p x = x) : UF F p id := ⟨fun x hx => by rw [hp x hx]; exact ⟨hx, Int.le_refl _⟩, fun x hx => .here (hp x hx)⟩
end

/-- two features have one root exactly if they are linked -/
def SoundR (F : List Int) (ρ : Int → Int) (E : Int → Int → Prop) : Prop := ∀ x ∈ F, ∀ y ∈ F, (ρ x = ρ y ↔ Conn E x y)
theorem SoundR.start (F : List Int) (E : Int → Int → Prop) (hE : ∀ x y, ¬ E x y) : SoundR F id E := by
  intro x hx y hy
  constructor
  · intro h
    have h' : x = y := h
    subst h'; exact .refl _
  · intro h
    cases h with
    | refl => rfl
    | edge e _ => exact (hE _ _ e).elim
    | back e _ => exact (hE _ _ e).elim
theorem SoundR.same {F : List Int} {ρ : Int → Int} {E E' : Int → Int → Prop} (h : SoundR F ρ E) (hE : ∀ x y, Conn E x y ↔ Conn E' x y) : SoundR F ρ E' := by
  intro x hx y hy
  rw [← hE]
  exact h x hx y hy
theorem SoundR.iff {F : List Int} {ρ : Int → Int} {E E' : Int → Int → Prop} (h : SoundR F ρ E) (hE : ∀ x y, E x y ↔ E' x y) : SoundR F ρ E' := by
  have : E = E' := by funext x y; exact propext (hE x y)
  rwa [← this]
theorem SoundR.join {F : List Int} {p ρ : Int → Int} {E : Int → Int → Prop} (hU : UF F p ρ) (h : SoundR F ρ E) {a b m n : Int} (ha : a ∈ F) (hb : b ∈ F)
    (hmn : (m = ρ a ∧ n = ρ b) ∨ (m = ρ b ∧ n = ρ a)) : SoundR F (join ρ n m) (more E a b) := by
  have ex : ∀ x ∈ F, ∃ r, Root p x r := fun x hx => ⟨_, hU.2 x hx⟩
  have hS : Sound F p E := by
    intro x hx y hy r s h1 h2
    obtain rfl := (hU.2 x hx).unique h1
    obtain rfl := (hU.2 y hy).unique h2
    exact h x hx y hy
  have h2 := hS.link ex ha hb (hU.2 a ha) (hU.2 b hb) hmn
  have hm : p m = m := by rcases hmn with ⟨rfl, rfl⟩ | ⟨rfl, rfl⟩ <;> first | exact hU.self ha | exact hU.self hb
  have hn : p n = n := by rcases hmn with ⟨rfl, rfl⟩ | ⟨rfl, rfl⟩ <;> first | exact hU.self ha | exact hU.self hb
  intro x hx y hy
  exact h2 x hx y hy _ _ ((hU.2 x hx).link hm hn) ((hU.2 y hy).link hm hn)
/-- the root of a feature is the least that is linked to it -/
theorem SoundR.least {F : List Int} {p ρ : Int → Int} {E : Int → Int → Prop} (hU : UF F p ρ) (h : SoundR F ρ E) {x y : Int} (hx : x ∈ F) (hy : y ∈ F) (hc : Conn E x y) : ρ x ≤ y := by
  rw [(h x hx y hy).2 hc]
  exact (hU.mem hy).2
end Go.Proofs.Uf
