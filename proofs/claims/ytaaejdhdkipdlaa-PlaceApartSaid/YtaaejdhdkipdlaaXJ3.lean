/- Lemmas and walks; no statement of a law is proved here. -/
import Derived.Test.YtaaejdhdkipdlaaXJ2
import Derived.OwnWalk
import Derived.Deep.RegionHeld3
import Derived.BigQuiet
set_option linter.unusedVariables false
set_option linter.unusedSimpArgs false
namespace Go.Proofs
open Go.RowKit Go.Proofs.Mp Go.Proofs.Uf Go.Maps

theorem RdC.get {w wr : World} {A : Option Addr} {xs : List Cand} (h : Rd 8 encC w A xs) (hb : Below w.heap.size w wr) {j : Nat} (hj : j < xs.length) :
    ∃ b off, A = some ⟨b, off, none⟩ ∧ b < w.heap.size ∧ wr.cell? ⟨b, off + j * 8, none⟩ = some (.int .i64 xs[j]!.f) ∧ wr.cell? ⟨b, off + j * 8 + 1, none⟩ = some (.int .i64 xs[j]!.x0) ∧ wr.cell? ⟨b, off + j * 8 + 2, none⟩ = some (.int .i64 xs[j]!.y0) ∧ wr.cell? ⟨b, off + j * 8 + 3, none⟩ = some (.int .i64 xs[j]!.x1)
      ∧ wr.cell? ⟨b, off + j * 8 + 4, none⟩ = some (.int .i64 xs[j]!.y1) ∧ wr.cell? ⟨b, off + j * 8 + 5, none⟩ = some (.int .i64 xs[j]!.ax) ∧ wr.cell? ⟨b, off + j * 8 + 6, none⟩ = some (.int .i64 xs[j]!.ay) ∧ wr.cell? ⟨b, off + j * 8 + 7, none⟩ = some (.int .i64 xs[j]!.co) := by
  obtain ⟨b, off, rfl, hlt, hc⟩ := Rd.get h hb hj
  exact ⟨b, off, rfl, hlt, hc j hj 0 _ rfl, hc j hj 1 _ rfl, hc j hj 2 _ rfl, hc j hj 3 _ rfl, hc j hj 4 _ rfl, hc j hj 5 _ rfl, hc j hj 6 _ rfl, hc j hj 7 _ rfl⟩

theorem RdC.cells {w wr : World} {b off : Nat} {xs : List Cand} (h : Rd 8 encC w (some ⟨b, off, none⟩) xs) (hb : Below w.heap.size w wr) {j : Nat} (hj : j < xs.length) :
    b < w.heap.size ∧ wr.cell? ⟨b, off + j * 8, none⟩ = some (.int .i64 xs[j]!.f) ∧ wr.cell? ⟨b, off + j * 8 + 1, none⟩ = some (.int .i64 xs[j]!.x0) ∧ wr.cell? ⟨b, off + j * 8 + 2, none⟩ = some (.int .i64 xs[j]!.y0) ∧ wr.cell? ⟨b, off + j * 8 + 3, none⟩ = some (.int .i64 xs[j]!.x1)
      ∧ wr.cell? ⟨b, off + j * 8 + 4, none⟩ = some (.int .i64 xs[j]!.y1) ∧ wr.cell? ⟨b, off + j * 8 + 5, none⟩ = some (.int .i64 xs[j]!.ax) ∧ wr.cell? ⟨b, off + j * 8 + 6, none⟩ = some (.int .i64 xs[j]!.ay) ∧ wr.cell? ⟨b, off + j * 8 + 7, none⟩ = some (.int .i64 xs[j]!.co) := by
  obtain ⟨b', off', he, r⟩ := RdC.get h hb hj
  injection he with he
  injection he with e1 e2
  subst e1; subst e2
  exact r
theorem below_gr {w w' : World} (h : Below w.heap.size w w') : w.grownBy w' none := ⟨h.os, h.tape, h.output, h.size, fun k hk _ => h.block k hk⟩

def avBg (g B : Nat) : Nat → Prop := fun j => j = B ∨ j = g
/-- what stands while the maps of parents is filled -/
def L1 (w : World) (g B : Nat) (l : List Cand) (k : Nat) (v : Value) (wr : World) : Prop :=
  OwnA 3 1 Mp.encI wr w.heap.size (avBg g B) v (feats (l.take k)) ∧ MapF Try.prog 3 wr B k (fun x => x ∈ feats (l.take k)) id ∧ wr.cell? ⟨g, 0, none⟩ = some (.map (some B)) ∧ Below w.heap.size w wr

theorem L1.start {w w0 : World} {l : List Cand} {v : Value} (hown : w0.ownsRow w.heap.size 3 1 v 0 []) (hg : w.grownBy w0 none) : L1 w (w0.heap.size + 1) w0.heap.size l 0 v ((w0.alloc (.map #[] 0)).alloc (.cells #[.map (some w0.heap.size)] 51)) := by
  have hb0 : Below w.heap.size w w0 := (Below.refl _ _).grown hg (Nat.le_refl _) (fun k hk => by cases hk)
  refine ⟨⟨?_, fun j hj => ?_⟩, ?_, ?_, ?_⟩
  · exact World.ownsRow.alloc (World.ownsRow.alloc hown _) _
  · have := (World.ownsRow.lt hown j hj).2
    unfold avBg
    omega
  · refine MapF.kept (row := none) ?_ (World.grownBy_alloc _ _ _) (by simp)
    exact (MapF.made w0).keys_iff fun x => by simp [feats]
  · simp
  · exact (hb0.alloc hb0.size _).alloc (by have := hb0.size; simp; omega) _

theorem alloc_size (w : World) (o : Obj) : (w.alloc o).heap.size = w.heap.size + 1 := by simp
theorem feats_take {l : List Cand} {k : Nat} (h : k < l.length) : feats (l.take (k + 1)) = feats (l.take k) ++ [l[k]!.f] := by
  unfold feats
  rw [List.take_succ_eq_append_getElem h, List.map_append]
  simp [h]
theorem feats_len (l : List Cand) : (feats l).length = l.length := by simp [feats]
theorem feats_take_len (l : List Cand) (k : Nat) : (feats (l.take k)).length ≤ l.length := by rw [feats_len]; simp; omega

theorem L1.av {w : World} {g B : Nat} {l : List Cand} {k : Nat} {v : Value} {wr : World} (h : L1 w g B l k v wr) : some B ≠ v.ownBlock ∧ some g ≠ v.ownBlock ∧ B < wr.heap.size ∧ g < wr.heap.size ∧ w.heap.size ≤ wr.heap.size ∧ ∀ j, avBg g B j → j < wr.heap.size := by
  obtain ⟨h1, h2, h3, h4⟩ := h
  have hB := h2.lt
  have hg := World.block_lt_of_cell? wr _ h3
  refine ⟨fun e => h1.2 B e.symm (.inl rfl), fun e => h1.2 g e.symm (.inr rfl), hB, hg, h4.size, ?_⟩
  rintro j (rfl | rfl)
  · exact hB
  · exact hg

theorem L1.mid {w : World} {g B : Nat} {l : List Cand} {k : Nat} {v : Value} {wr w1 : World} {o : Obj} (h : L1 w g B l k v wr) (hg1 : (wr.alloc o).grownBy w1 v.ownBlock) :
    MapF Try.prog 3 w1 B k (fun x => x ∈ feats (l.take k)) id ∧ w1.cell? ⟨g, 0, none⟩ = some (.map (some B)) ∧ ∀ (j : Nat) u, (wr.alloc o).cell? ⟨wr.heap.size, j, none⟩ = some u → w1.cell? ⟨wr.heap.size, j, none⟩ = some u := by
  obtain ⟨hB, hgn, hBl, hgl, hs, _⟩ := h.av
  obtain ⟨h1, h2, h3, h4⟩ := h
  refine ⟨(h2.kept (row := none) (World.grownBy_alloc wr o none) (by simp)).kept hg1 hB, World.grownBy.cell hg1 (World.grownBy.cell (World.grownBy_alloc wr o none) h3 (by simp)) hgn, fun j u hu => World.grownBy.cell hg1 hu ?_⟩
  intro e
  have := (h1.lt e.symm).2
  simp at this

theorem L1.step {w : World} {g B : Nat} {l : List Cand} {k : Nat} {v v1 : Value} {wr w1 w2 : World} {o : Obj} (h : L1 w g B l k v wr) (hk : k < l.length) (hgB : g ≠ B) (hbB : w.heap.size ≤ B)
    (hown1 : OwnA 3 1 Mp.encI w1 w.heap.size (avBg g B) v1 (feats (l.take k) ++ [l[k]!.f])) (hg1 : (wr.alloc o).grownBy w1 v.ownBlock)
    (hM2 : MapF Try.prog 3 w2 B (k + 1) (fun z => z = l[k]!.f ∨ z ∈ feats (l.take k)) (upd id l[k]!.f l[k]!.f)) (hg2 : w1.grownBy w2 (some B)) : L1 w g B l (k + 1) v1 w2 := by
  obtain ⟨_, hc1, _⟩ := h.mid hg1
  obtain ⟨hB, hgn, hBl, hgl, hs, _⟩ := h.av
  obtain ⟨h1, h2, h3, h4⟩ := h
  refine ⟨?_, ?_, ?_, ?_⟩
  · rw [feats_take hk]
    refine hown1.kept hg2 ?_
    rcases ho : v1.ownBlock with _ | j
    · exact .inl rfl
    · right
      intro e
      injection e with e
      exact hown1.2 j ho (.inl e)
  · refine (hM2.keys_iff fun z => ?_).fn fun z hz => ?_
    · rw [feats_take hk]; simp [or_comm]
    · by_cases he : z = l[k]!.f
      · subst he; rw [upd_same]; rfl
      · rw [upd_ne _ _ _ he]
  · exact World.grownBy.cell hg2 hc1 (by simpa using hgB)
  · exact ((h4.alloc hs o).grown hg1 (by simp; omega) (fun j hj => (h1.lt hj).1)).grown hg2 (Nat.le_trans (by simp; omega) hg1.size) (fun j hj => by injection hj with hj; omega)

/-- what stands while the pairs are gone through -/
def L2 (w : World) (g B : Nat) (l : List Cand) (i j : Nat) (v : Value) (wr : World) : Prop :=
  OwnA 3 1 Mp.encI wr w.heap.size (avBg g B) v (feats l) ∧ (∃ ρ, GS wr g B l.length (feats l) ρ ∧ SoundR (feats l) ρ (EdTo l i j)) ∧ Below w.heap.size w wr

theorem L1.done {w : World} {g B : Nat} {l : List Cand} {v : Value} {wr : World} (h : L1 w g B l l.length v wr) (hgB : g ≠ B) : L2 w g B l 0 0 v wr := by
  obtain ⟨h1, h2, h3, h4⟩ := h
  rw [List.take_length] at h1 h2
  exact ⟨h1, ⟨id, ⟨h3, hgB, id, h2, UF.start _ _ fun x _ => rfl⟩, SoundR.start _ _ (edTo_zero l)⟩, h4⟩
theorem L2.row {w : World} {g B : Nat} {l : List Cand} {i : Nat} {v : Value} {wr : World} (h : L2 w g B l i i v wr) : L2 w g B l (i + 1) 0 v wr := by
  obtain ⟨h1, ⟨ρ, h2, h3⟩, h4⟩ := h
  exact ⟨h1, ⟨ρ, h2, h3.iff fun x y => (edTo_row l i x y).symm⟩, h4⟩
theorem GS.kept {w w' : World} {g B N : Nat} {F : List Int} {ρ : Int → Int} (h : GS w g B N F ρ) {row : Option Nat} (hg : w.grownBy w' row) (h1 : some g ≠ row) (h2 : some B ≠ row) : GS w' g B N F ρ := by
  obtain ⟨a, b, p, c, d⟩ := h
  exact ⟨World.grownBy.cell hg a h1, b, p, c.kept hg h2, d⟩
theorem L2.none {w : World} {g B : Nat} {l : List Cand} {i j : Nat} {v : Value} {wr w' : World} (h : L2 w g B l i j v wr) (hg : wr.grownBy w' Option.none) (hbase : w.heap.size ≤ wr.heap.size) : L2 w g B l i j v w' := by
  obtain ⟨h1, ⟨ρ, h2, h3⟩, h4⟩ := h
  refine ⟨h1.kept hg ?_, ⟨ρ, h2.kept hg (by simp) (by simp), h3⟩, h4.grown hg hbase (fun k hk => by cases hk)⟩
  rcases v.ownBlock with _ | q
  · exact .inl rfl
  · exact .inr (by simp)

/-- a candidate's block -/
def CandAt (w : World) (b : Nat) (x : Cand) : Prop :=
  w.cell? ⟨b, 0, none⟩ = some (.int .i64 x.f) ∧ w.cell? ⟨b, 1, none⟩ = some (.int .i64 x.x0) ∧ w.cell? ⟨b, 2, none⟩ = some (.int .i64 x.y0) ∧ w.cell? ⟨b, 3, none⟩ = some (.int .i64 x.x1) ∧
  w.cell? ⟨b, 4, none⟩ = some (.int .i64 x.y1) ∧ w.cell? ⟨b, 5, none⟩ = some (.int .i64 x.ax) ∧ w.cell? ⟨b, 6, none⟩ = some (.int .i64 x.ay) ∧ w.cell? ⟨b, 7, none⟩ = some (.int .i64 x.co)
theorem CandAt.kept {w w' : World} {b : Nat} {x : Cand} (h : CandAt w b x) {row : Option Nat} (hg : w.grownBy w' row) (hne : some b ≠ row) : CandAt w' b x := by
  obtain ⟨h0, h1, h2, h3, h4, h5, h6, h7⟩ := h
  exact ⟨hg.cell h0 hne, hg.cell h1 hne, hg.cell h2 hne, hg.cell h3 hne, hg.cell h4 hne, hg.cell h5 hne, hg.cell h6 hne, hg.cell h7 hne⟩
theorem CandAt.lt {w : World} {b : Nat} {x : Cand} (h : CandAt w b x) : b < w.heap.size := World.block_lt_of_cell? w _ h.1
abbrev candObj (x : Cand) : Obj := .cells #[.int .i64 x.f, .int .i64 x.x0, .int .i64 x.y0, .int .i64 x.x1, .int .i64 x.y1, .int .i64 x.ax, .int .i64 x.ay, .int .i64 x.co] 45
theorem CandAt.new (w : World) (x : Cand) : CandAt (w.alloc (.cells #[.int .i64 x.f, .int .i64 x.x0, .int .i64 x.y0, .int .i64 x.x1, .int .i64 x.y1, .int .i64 x.ax, .int .i64 x.ay, .int .i64 x.co] 45)) w.heap.size x := by
  refine ⟨?_, ?_, ?_, ?_, ?_, ?_, ?_, ?_⟩ <;> simp

/-- the world of the region in which both roots are asked for -/
def HS (w1 : World) (g B N : Nat) (F : List Int) (ρ : Int → Int) (xb yb : Nat) (xf yf : Int) (W : World) : Prop := GS W g B N F ρ ∧ w1.grownBy W (some B) ∧ xb < w1.heap.size ∧ yb < w1.heap.size ∧ xb ≠ B ∧ yb ≠ B
theorem first_step (g B N : Nat) (F : List Int) (ρ : Int → Int) (hwf : wfs F) (hN : N ≤ 1000000) (w1 : World) (xb yb : Nat) (xf yf : Int) (z : Int) (hz : z ∈ F) (W : World)
    (h : W.cell? ⟨xb, 0, none⟩ = some (.int .i64 xf) ∧ W.cell? ⟨yb, 0, none⟩ = some (.int .i64 yf) ∧ HS w1 g B N F ρ xb yb xf yf W) :
    Calls Try.prog 46 #[.int .i64 z, .pointer (some ⟨g, 0, none⟩)] W fun e w' => e = .returned (.int .i64 (ρ z)) ∧ (w'.cell? ⟨xb, 0, none⟩ = some (.int .i64 xf) ∧ w'.cell? ⟨yb, 0, none⟩ = some (.int .i64 yf) ∧ HS w1 g B N F ρ xb yb xf yf w') := by
  obtain ⟨h1, h2, hG, hg, q1, q2, q3, q4⟩ := h
  exact (first_any g B N F ρ hwf hN z hz W hG).mono fun e w' ⟨he, hG', hg'⟩ => ⟨he, hg'.cell h1 (by simpa using q3), hg'.cell h2 (by simpa using q4), hG', hg.trans hg', q1, q2, q3, q4⟩

theorem GS.link {w w' : World} {g B N : Nat} {F : List Int} {ρ p : Int → Int} (hc : w.cell? ⟨g, 0, none⟩ = some (.map (some B))) (hgB : g ≠ B) (hU : UF F p ρ) {a b : Int} (ha : a ∈ F) (hb : b ∈ F)
    (hM : MapF Try.prog 3 w' B N (fun z => z = max (ρ a) (ρ b) ∨ z ∈ F) (upd p (max (ρ a) (ρ b)) (min (ρ a) (ρ b)))) (hg : w.grownBy w' (some B)) {E : Int → Int → Prop} (hS : SoundR F ρ E) :
    ∃ ρ', GS w' g B N F ρ' ∧ SoundR F ρ' (more E a b) := by
  have hma := (hU.mem ha).1
  have hmb := (hU.mem hb).1
  have hsa := hU.self ha
  have hsb := hU.self hb
  have key : ∀ m n, ((m = ρ a ∧ n = ρ b) ∨ (m = ρ b ∧ n = ρ a)) → m ≤ n → MapF Try.prog 3 w' B N (fun z => z = n ∨ z ∈ F) (upd p n m) → ∃ ρ', GS w' g B N F ρ' ∧ SoundR F ρ' (more E a b) := by
    intro m n hmn hle hM
    have hmF : m ∈ F := by rcases hmn with ⟨rfl, rfl⟩ | ⟨rfl, rfl⟩ <;> assumption
    have hnF : n ∈ F := by rcases hmn with ⟨rfl, rfl⟩ | ⟨rfl, rfl⟩ <;> assumption
    have hpm : p m = m := by rcases hmn with ⟨rfl, rfl⟩ | ⟨rfl, rfl⟩ <;> assumption
    have hpn : p n = n := by rcases hmn with ⟨rfl, rfl⟩ | ⟨rfl, rfl⟩ <;> assumption
    exact ⟨join ρ n m, ⟨hg.cell hc (by simpa using hgB), hgB, _, MapF.reF hnF hM, hU.link hmF hpm hpn hle⟩, hS.join hU ha hb hmn⟩
  rcases Int.le_total (ρ a) (ρ b) with h | h
  · rw [Int.max_eq_right h, Int.min_eq_left h] at hM
    exact key _ _ (.inl ⟨rfl, rfl⟩) h hM
  · rw [Int.max_eq_left h, Int.min_eq_right h] at hM
    exact key _ _ (.inr ⟨rfl, rfl⟩) h hM

theorem mm_mem {F : List Int} {a b : Int} (ha : a ∈ F) (hb : b ∈ F) : max a b ∈ F ∧ min a b ∈ F := by
  rcases Int.le_total a b with h | h
  · rw [Int.max_eq_right h, Int.min_eq_left h]; exact ⟨hb, ha⟩
  · rw [Int.max_eq_left h, Int.min_eq_right h]; exact ⟨ha, hb⟩
theorem grown_drew (w : World) (row : Option Nat) : w.grownBy w.drew row := ⟨rfl, rfl, rfl, Nat.le_refl _, fun _ _ _ => rfl⟩
theorem own_ne {v : Value} {e k : Nat} {α : Type} {enc : α → List Value} {w : World} {base : Nat} {g B : Nat} {xs : List α} (h : OwnA e k enc w base (avBg g B) v xs) : v.ownBlock = none ∨ v.ownBlock ≠ some B := by
  rcases ho : v.ownBlock with _ | j
  · exact .inl rfl
  · right
    intro e
    injection e with e
    exact h.2 j ho (.inl e)

theorem Mp.Own.sl {w : World} {base : Nat} {v : Value} {xs : List Int} (h : OwnI 3 w base v xs) : SlI w v xs := by
  have h0 := own_held h
  have h1 := h0
  rcases h0 with ⟨A, c, rfl, rfl⟩ | ⟨g, c, rfl, _, _, hc, _⟩
  · exact ⟨A, c, rfl, Nat.zero_le _, Rd.nil _⟩
  · exact ⟨_, c, rfl, hc, (held_rd h1).2⟩

theorem MapF.ne_cell {P : Program} {k : TypeId} {w : World} {B N : Nat} {keys : Int → Prop} {p : Int → Int} (h : MapF P k w B N keys p) {b o : Nat} {v : Value} (hc : w.cell? ⟨b, o, none⟩ = some v) : b ≠ B := by
  rintro rfl
  obtain ⟨D, ⟨es, clock, hh, _⟩, _⟩ := h
  simp [World.cell?, hh] at hc

/-- the list all lies at A, in a block that the last loop does not write -/
def AllAt (W2 B Bp : Nat) (A : Option Addr) (all : List Int) (wr : World) : Prop :=
  all = [] ∨ ∃ b off, A = some ⟨b, off, none⟩ ∧ b < W2 ∧ b ≠ B ∧ b ≠ Bp ∧ ∀ j, j < all.length → wr.cell? ⟨b, off + j, none⟩ = some (.int .i64 all[j]!)
theorem AllAt.kept {W2 B Bp : Nat} {A : Option Addr} {all : List Int} {w w' : World} (h : AllAt W2 B Bp A all w) {row : Option Nat} (hg : w.grownBy w' row) (hrow : ∀ j, row = some j → j = B ∨ j = Bp ∨ W2 ≤ j) : AllAt W2 B Bp A all w' := by
  rcases h with h | ⟨b, off, hA, h1, h2, h3, h4⟩
  · exact .inl h
  · refine .inr ⟨b, off, hA, h1, h2, h3, fun j hj => hg.cell (h4 j hj) ?_⟩
    intro e
    rcases hrow b e.symm with h | h | h <;> omega
theorem AllAt.get {W2 B Bp : Nat} {A : Option Addr} {all : List Int} {w : World} (h : AllAt W2 B Bp A all w) {j : Nat} (hj : j < all.length) : ∃ b off, A = some ⟨b, off, none⟩ ∧ w.cell? ⟨b, off + j, none⟩ = some (.int .i64 all[j]!) := by
  rcases h with rfl | ⟨b, off, hA, _, _, _, h4⟩
  · simp at hj
  · exact ⟨b, off, hA, h4 j hj⟩

/-- what stands while the groups are gathered -/
structure F4 (w : World) (W2 g B Bp : Nat) (l : List Cand) (A : Option Addr) (all : List Int) (ρ : Int → Int) (k : Nat) (vo : Value) (wr : World) : Prop where
  gs : GS wr g B l.length (feats l) ρ
  pl : ∃ q, MapF Try.prog 3 wr Bp k (fun z => z ∈ rts ρ (all.take k)) q ∧ ∀ i, i < (rts ρ (all.take k)).length → q (rts ρ (all.take k))[i]! = (i : Int)
  ne : Nest 23 3 wr W2 (fun _ => False) vo (grp ρ (all.take k))
  al : AllAt W2 B Bp A all wr
  bl : Below w.heap.size w wr
  sz : W2 ≤ wr.heap.size

theorem take_snoc {all : List Int} {k : Nat} (h : k < all.length) : all.take (k + 1) = all.take k ++ [all[k]!] := by
  rw [List.take_succ_eq_append_getElem h]
  simp [h]
/-- of an ascending list of features: what was met before is less -/
theorem asc_take {all : List Int} (h : Asc all) {k : Nat} (hk : k < all.length) : ∀ y ∈ all.take k, y < all[k]! := by
  intro y hy
  obtain ⟨i, hi, rfl⟩ := List.getElem_of_mem hy
  have hi' : i < k := by simp at hi; omega
  rw [List.getElem_take, getElem!_pos all k hk]
  exact (List.pairwise_iff_getElem.1 h) i k (by omega) hk hi'
theorem asc_mem_take {all : List Int} (h : Asc all) {k : Nat} (hk : k < all.length) {y : Int} (hy : y ∈ all) (hlt : y < all[k]!) : y ∈ all.take k := by
  obtain ⟨i, hi, rfl⟩ := List.getElem_of_mem hy
  rw [getElem!_pos all k hk] at hlt
  have : i < k := by
    rcases Nat.lt_trichotomy i k with h1 | rfl | h1
    · exact h1
    · omega
    · have := (List.pairwise_iff_getElem.1 h) k i hk hi h1; omega
  rw [List.mem_take_iff_getElem]
  exact ⟨i, by omega, rfl⟩

/-- the two cases of the last loop's round -/
theorem round_cases {all F : List Int} {p ρ : Int → Int} (hF : ∀ x, x ∈ all ↔ x ∈ F) (hU : UF F p ρ) (hasc : Asc all) {k : Nat} (hk : k < all.length) :
    (ρ all[k]! ∉ rts ρ (all.take k) ∧ ρ all[k]! = all[k]! ∧ rts ρ (all.take (k + 1)) = rts ρ (all.take k) ++ [all[k]!] ∧ grp ρ (all.take (k + 1)) = grp ρ (all.take k) ++ [[all[k]!]]) ∨
    (∃ i, i < (rts ρ (all.take k)).length ∧ ρ all[k]! = (rts ρ (all.take k))[i]! ∧ ρ all[k]! ∈ rts ρ (all.take k) ∧ rts ρ (all.take (k + 1)) = rts ρ (all.take k) ∧ grp ρ (all.take (k + 1)) = (grp ρ (all.take k)).set i ((grp ρ (all.take k))[i]! ++ [all[k]!])) := by
  have hx : all[k]! ∈ all := by rw [getElem!_pos all k hk]; exact List.getElem_mem hk
  have hxF := (hF _).1 hx
  have hm := hU.mem hxF
  have hid := hU.idem hxF
  have hlt := asc_take hasc hk
  by_cases he : ρ all[k]! = all[k]!
  · left
    refine ⟨fun h => ?_, he, by rw [take_snoc hk, rts_new he], ?_⟩
    · have h1 := (List.mem_filter.1 h).1
      have := hlt _ h1
      omega
    · rw [take_snoc hk]
      refine grp_new hlt (fun y hy => ?_) he
      exact (hU.mem ((hF y).1 (List.mem_of_mem_take hy))).2
  · right
    have hin : ρ all[k]! ∈ rts ρ (all.take k) := by
      refine List.mem_filter.2 ⟨asc_mem_take hasc hk ((hF _).2 hm.1) (by omega), by simpa using hid⟩
    obtain ⟨i, hi, hie⟩ := List.getElem_of_mem hin
    refine ⟨i, hi, by rw [getElem!_pos _ i hi, hie], hin, by rw [take_snoc hk, rts_old he], ?_⟩
    rw [take_snoc hk]
    refine grp_old ?_ he hi (by rw [getElem!_pos _ i hi, hie])
    exact List.Pairwise.filter _ (List.Pairwise.sublist (List.take_sublist _ _) hasc)

theorem grown_set (w : World) (g i : Nat) (v : Value) : w.grownBy (w.setCell ⟨g, i, none⟩ v) (some g) :=
  ⟨rfl, rfl, rfl, by simp [World.setCell], fun k _ hk => heap_setCell_other w ⟨g, i, none⟩ k v (fun e => hk (by simp [e]))⟩
theorem own_base_ne {α : Type} {e k : Nat} {enc : α → List Value} {w : World} {base : Nat} {av : Nat → Prop} {v : Value} {xs : List α} (h : OwnA e k enc w base av v xs) {j : Nat} (hj : j < base) : v.ownBlock = none ∨ v.ownBlock ≠ some j := by
  rcases ho : v.ownBlock with _ | m
  · exact .inl rfl
  · right
    intro e
    injection e with e
    have := (h.lt ho).1
    omega
theorem grp_get_len (ρ : Int → Int) (pre : List Int) {i : Nat} (h : i < (rts ρ pre).length) : (grp ρ pre)[i]!.length ≤ pre.length := by
  rw [grp_get ρ pre h]
  exact List.length_filter_le _ _

/-- what lies beside the groups -/
structure R4 (w : World) (W2 g B Bp : Nat) (l : List Cand) (A : Option Addr) (all : List Int) (ρ : Int → Int) (M : Nat) (keys : Int → Prop) (q : Int → Int) (wr : World) : Prop where
  gs : GS wr g B l.length (feats l) ρ
  pl : MapF Try.prog 3 wr Bp M keys q
  al : AllAt W2 B Bp A all wr
  bl : Below w.heap.size w wr
  sz : W2 ≤ wr.heap.size
theorem R4.kept {w : World} {W2 g B Bp : Nat} {l : List Cand} {A : Option Addr} {all : List Int} {ρ : Int → Int} {M : Nat} {keys : Int → Prop} {q : Int → Int} {wr w' : World} (h : R4 w W2 g B Bp l A all ρ M keys q wr)
    (hw : w.heap.size ≤ W2) (h1 : g < W2) (h2 : B < W2) (h3 : Bp < W2) {row : Option Nat} (hg : wr.grownBy w' row) (hrow : ∀ j, row = some j → W2 ≤ j) : R4 w W2 g B Bp l A all ρ M keys q w' := by
  have ne : ∀ j, j < W2 → some j ≠ row := fun j hj e => by have := hrow j e.symm; omega
  exact ⟨h.gs.kept hg (ne g h1) (ne B h2), h.pl.kept hg (ne Bp h3), h.al.kept hg fun j hj => .inr (.inr (hrow j hj)), h.bl.grown hg h.bl.size (fun j hj => Nat.le_trans hw (hrow j hj)), Nat.le_trans h.sz hg.size⟩

section
variable {te ti : TypeId} {w w' : World} {base : Nat} {av : Nat → Prop} {vout : Value} {gs : List (List Int)}
theorem Mp.Nest.getLast (h : Nest te ti w base av vout (gs ++ [[]])) {L : Nat} (hL : gs.length = L) : ∃ g cap ni ci, vout = .slice (some ⟨g, 0, none⟩) (L + 1) cap ∧ L + 1 ≤ cap ∧ base ≤ g ∧ w.cell? ⟨g, L, none⟩ = some (.slice ni 0 ci) ∧ w.frozen? ⟨g, L, none⟩ = false ∧ OwnA ti 1 Mp.encI w base (fun j => av j ∨ j = g) (.slice ni 0 ci) [] ∧
    ∀ v' w' x, OwnA ti 1 Mp.encI w' base (fun j => av j ∨ j = g) v' [x] → w.grownBy w' (Value.slice ni 0 ci).ownBlock → (v'.ownBlock = (Value.slice ni 0 ci).ownBlock ∨ ∃ j, v'.ownBlock = some j ∧ w.heap.size ≤ j) →
      Nest te ti (w'.setCell ⟨g, L, none⟩ v') base av vout (gs ++ [[x]]) := by
  subst hL
  have e1 : (gs ++ [[]])[gs.length]! = ([] : List Int) := by simp
  obtain ⟨g, cap, vi, ni, ci, hv, hc, hb, hvi, hcell, hf, hin, hcl⟩ := h.get (i := gs.length) (by simp)
  rw [e1] at hvi hin hcl
  simp only [List.length_append, List.length_singleton] at hv hc
  subst hvi
  refine ⟨g, cap, ni, ci, hv, hc, hb, hcell, hf, hin, fun v' w' x h1 h2 h3 => ?_⟩
  have := hcl v' w' x h1 h2 h3
  have e2 : (gs ++ [[]]).set gs.length ([] ++ [x]) = gs ++ [[x]] := by simp
  rwa [e2] at this
end
theorem Try.infoS : (Try.prog.info? 23).map (fun i => (i.zero, i.size, i.bytes)) = some (some (.slice none 0 0), 1, 24) := by kernel_rfl
theorem encS_one (xs : Option Addr × Nat × Nat) : ∀ u ∈ encV (.slice xs.1 xs.2.1 xs.2.2), u.oneCell' = true := by
  intro u hu
  simp only [encV, List.mem_singleton] at hu
  subst hu; rfl
theorem frozen_grown {w w' : World} {row : Option Nat} (hg : w.grownBy w' row) {g i : Nat} (hlt : g < w.heap.size) (hne : some g ≠ row) : w'.frozen? ⟨g, i, none⟩ = w.frozen? ⟨g, i, none⟩ :=
  World.frozen?_of_block (hg.block g hlt hne)
theorem av_g0 {g0 n : Nat} (h : g0 < n) : ∀ j, (False ∨ j = g0) → j < n := by
  rintro j (h' | rfl)
  · exact h'.elim
  · exact h
theorem pl_new {R : List Int} {q : Int → Int} {x : Int} {L : Nat} (hx : x ∉ R) (hL : R.length = L) (hq : ∀ i, i < R.length → q R[i]! = (i : Int)) : ∀ i, i < (R ++ [x]).length → (upd q x (L : Int)) (R ++ [x])[i]! = (i : Int) := by
  intro i hi
  simp only [List.length_append, List.length_singleton] at hi
  by_cases h : i < R.length
  · have e : (R ++ [x])[i]! = R[i]! := by
      rw [getElem!_pos (R ++ [x]) i (by simp; omega), getElem!_pos R i h, List.getElem_append_left h]
    rw [e, upd_ne, hq i h]
    intro e2
    apply hx
    rw [← e2, getElem!_pos R i h]
    exact List.getElem_mem h
  · have : i = R.length := by omega
    subst this
    have e : (R ++ [x])[R.length]! = x := by simp
    rw [e, upd_same, hL]
end Go.Proofs
set_option linter.unusedVariables false
set_option linter.unusedSimpArgs false
namespace Go.Proofs
open Go.RowKit Go.Proofs.Mp Go.Proofs.Uf Go.Maps

set_option maxRecDepth 100000 in
set_option maxHeartbeats 4000000 in
theorem clusters_any (A : Option Addr) (c : Nat) (l : List Cand) (w : World) (hcap : l.length ≤ c) (hmax : l.length ≤ 1000) (hR : Rd 8 encC w A l) (hwf : wfs (feats l)) :
    Calls Try.prog 24 #[.slice A l.length c] w (fun e w' => ∃ v, e = .returned v ∧ Nest 23 3 w' w.heap.size (fun _ => False) v (clS (Ed l) (setL (feats l))) ∧ Below w.heap.size w w') := by
  obtain ⟨i0, hi, hz0, hz1, hz2⟩ := Mp.info_parts Try.infoI
  have hmm := @run_makeMap Try.prog
  go_enter Try.func24, Try.ntmps24
  go_wp2_with (at_make; refine wpList_make_own _ rfl _ _ 23 rfl w.heap.size 3 i0 (.int .i64 0) 1 Try.underlying23 hi hz0 hz1 .i64 .i64 _ l.length rfl rfl rfl (by rw [hz2]; omega) (by unfold maxLen; omega) (Nat.le_refl _) ?_; intro w0 hown0 hgrow0)
  have hL0 := L1.start (l := l) hown0 hgrow0
  go_loopw [3, 26] (fun v i wr => ∃ k : Nat, k ≤ l.length ∧ i = .int .i64 k ∧ L1 w (w0.heap.size + 1) w0.heap.size l k v wr) (fun _ i _ => l.length - (intOf i).toNat)
  case atStart => exact ⟨0, by omega, rfl, hL0⟩
  case round =>
    obtain ⟨k, hk, rfl, hL⟩ := hrel
    by_cases hlt : k < l.length
    · obtain ⟨b, off, rfl, hb, c0, c1, c2, c3, c4, c5, c6, c7⟩ := RdC.get hR hL.2.2.2 hlt
      obtain ⟨hBn, hgn, hBl, hgl, hs, hav⟩ := hL.av
      have hwx := hwf _ (feats_get hlt)
      have hlen := feats_take_len l k
      obtain ⟨x, hx⟩ : ∃ x, l[k]! = x := ⟨_, rfl⟩
      have HX := Lib.hid hx
      rw [hx] at c0 c1 c2 c3 c4 c5 c6 c7 hwx
      clear hx
      have hownA := hL.1.alloc (.cells #[.int .i64 x.f, .int .i64 x.x0, .int .i64 x.y0, .int .i64 x.x1, .int .i64 x.y1, .int .i64 x.ax, .int .i64 x.ay, .int .i64 x.co] 45)
      go_wp2_with (first
        | (at_builtin; refine Mp.OwnA.append1 (enc := Mp.encI) 23 i0 (.int .i64 0) 8 Try.underlying23 hi hz0 hz1 hz2 rfl (by decide) (by decide) encI_len x.f (encI_one _) rfl _ _ rfl hownA (fun j hj => by have := hav j hj; simp; omega) rfl (by rw [alloc_size]; rfl) (by omega) (by simp; omega) ?_; clear hownA; intro v1 w1 hown1 hg1 hloc1; obtain ⟨hM1, hc1, hcs1⟩ := hL.mid hg1; have s0 := hcs1 0 (.int .i64 x.f) (by simp); clear hcs1)
        | (at_mapUpdate; refine MapF.store hM1 rfl _ _ _ rfl Try.underlying51 Try.underlying3 rfl x.f x.f rfl rfl hwx hwx (M := k + 1) (.inr (Nat.le_refl _)) (by unfold maxLen; omega) ?_; intro w2 hM2 hg2))
      go_roundw
      case rel => exact ⟨k + 1, by omega, by go_num, hL.step hlt (by omega) hgrow0.size (by rw [HX.out]; exact hown1) hg1 (by rw [HX.out]; exact hM2) hg2⟩
      case measure => simp [intOf]; omega
    · obtain rfl : k = l.length := by omega
      have hL2 := hL.done (by omega)
      obtain ⟨g, hg⟩ : ∃ g, w0.heap.size + 1 = g := ⟨_, rfl⟩
      obtain ⟨B, hB⟩ : ∃ B, w0.heap.size = B := ⟨_, rfl⟩
      have hgB : g ≠ B := by omega
      have hbB : w.heap.size ≤ B := by have := hgrow0.size; omega
      rw [hg, hB] at hL2 ⊢
      clear hL hL0 hg hB hown0 hgrow0
      go_wp2_with fail
      have hLs := hL2.2.2.size
      go_loopw [44] (fun i wq => ∃ k : Nat, k ≤ l.length ∧ i = .int .i64 k ∧ L2 w g B l k 0 u3 wq) (fun i _ => l.length - (intOf i).toNat)
      case atStart => exact ⟨0, by omega, rfl, hL2⟩
      case round =>
        clear hL2
        obtain ⟨k, hk, rfl, hL⟩ := hrel
        by_cases hlt : k < l.length
        · obtain ⟨b, off, rfl, hb, c0, c1, c2, c3, c4, c5, c6, c7⟩ := RdC.get hR hL.2.2 hlt
          obtain ⟨x, hx⟩ : ∃ x, l[k]! = x := ⟨_, rfl⟩
          have hxF := feats_get hlt
          have HX := Lib.hid hx
          rw [hx] at c0 c1 c2 c3 c4 c5 c6 c7 hxF
          clear hx
          have hA0 := CandAt.new wr x
          have hL0 := hL.none (World.grownBy_alloc wr (candObj x) _) hL.2.2.size
          have hgl : g < wr.heap.size ∧ B < wr.heap.size := by obtain ⟨_, ⟨ρ, h, _⟩, _⟩ := hL; exact h.block
          go_wp2_with fail
          obtain ⟨xb, hxb⟩ : ∃ q, wr.heap.size = q := ⟨_, rfl⟩
          rw [hxb] at hA0 hgl ⊢
          have hxg : xb ≠ g := by omega
          have hxB : xb ≠ B := by omega
          clear hxb hL c0 c1 c2 c3 c4 c5 c6 c7
          go_loopw [53] (fun j wr => ∃ m : Nat, m ≤ k ∧ j = .int .i64 m ∧ L2 w g B l k m u3 wr ∧ CandAt wr xb x) (fun j _ => k - (intOf j).toNat)
          case atStart => exact ⟨0, by omega, rfl, hL0, hA0⟩
          case round =>
            clear hL0 hA0
            obtain ⟨m, hm, rfl, hL, hA⟩ := hrel
            by_cases hlt2 : m < k
            · obtain ⟨_, c0, c1, c2, c3, c4, c5, c6, c7⟩ := RdC.cells hR hL.2.2 (show m < l.length by omega)
              obtain ⟨y, hy⟩ : ∃ y, l[m]! = y := ⟨_, rfl⟩
              have hyF := feats_get (show m < l.length by omega)
              have HY := Lib.hid hy
              rw [hy] at c0 c1 c2 c3 c4 c5 c6 c7 hyF
              clear hy
              have hbs := hL.2.2.size
              have hAl := hA.lt
              obtain ⟨a0, a1, a2, a3, a4, a5, a6, a7⟩ := hA
              have hA : CandAt wr xb x := ⟨a0, a1, a2, a3, a4, a5, a6, a7⟩
              have HA := Lib.hid hA
              clear hA
              go_wp2_with fail
              refine (ov_hit x y _).mono ?_
              rintro e w1 ⟨rfl, hb1⟩
              have hg1 : wr.grownBy w1 none := (World.grownBy_alloc wr _ _).trans (below_gr hb1)
              have hL1 := hL.none hg1 hbs
              have hA1 := HA.out.kept hg1 (by simp)
              rcases hh : hitB x y with _ | _
              · have HH := Lib.hid hh
                clear hh
                go_wp2
                go_roundw
                case rel => exact ⟨m + 1, by omega, by go_num, ⟨hL1.1, by obtain ⟨ρ, q1, q2⟩ := hL1.2.1; exact ⟨ρ, q1, q2.iff (edTo_miss (by rw [HX.out, HY.out]; exact HH.out))⟩, hL1.2.2⟩, hA1⟩
                case measure => simp [intOf]; omega
              · have HH := Lib.hid hh
                clear hh
                obtain ⟨hOw, ⟨ρ, hG, hS⟩, hBl⟩ := hL1
                have hY1 : CandAt w1 wr.heap.size y := (CandAt.new wr y).kept (below_gr hb1) (by simp)
                obtain ⟨yb, hyb⟩ : ∃ q, wr.heap.size = q := ⟨_, rfl⟩
                have hgl1 := hL.2.1
                have hyB : yb ≠ B := by obtain ⟨ρ', h', _⟩ := hgl1; have := h'.block; omega
                rw [hyb] at hY1 ⊢
                have hS0 : w1.drew.cell? ⟨xb, 0, none⟩ = some (.int .i64 x.f) ∧ w1.drew.cell? ⟨yb, 0, none⟩ = some (.int .i64 y.f) ∧ HS w1 g B l.length (feats l) ρ xb yb x.f y.f w1.drew :=
                  ⟨hA1.1, hY1.1, hG.kept (grown_drew w1 none) (by simp) (by simp), grown_drew w1 _, hA1.lt, hY1.lt, hxB, hyB⟩
                have hNm : l.length ≤ 1000000 := by omega
                clear c0 c1 c2 c3 c4 c5 c6 c7 a0 a1 a2 a3 a4 a5 a6 a7 HA hgl1 hyb hb1
                go_wp2_with fail
                go_region_held3 (fun w' => w'.cell? ⟨xb, 0, none⟩ = some (.int .i64 x.f) ∧ w'.cell? ⟨yb, 0, none⟩ = some (.int .i64 y.f) ∧ HS w1 g B l.length (feats l) ρ xb yb x.f y.f w') (first | exact hS2 | exact hS0)
                  ((go_at_call 46; refine (first_step g B _ _ ρ hwf hNm w1 xb yb _ _ _ (by first | exact hxF | exact hyF) _ (by first | exact hS2 | exact hS0)).mono ?_; rintro e w2 ⟨rfl, hS2⟩))
                all_goals
                  obtain ⟨_, _, ⟨hc2, _, p, hM, hU⟩, hg2, _⟩ := hS2
                  have hmm2 := mm_mem (hU.mem hxF).1 (hU.mem hyF).1
                  clear hS0 hG
                  go_wp2_with (at_mapUpdate; refine MapF.store hM rfl _ _ _ rfl Try.underlying51 Try.underlying3 rfl (max (ρ x.f) (ρ y.f)) (min (ρ x.f) (ρ y.f)) rfl rfl (hwf _ hmm2.1) (hwf _ hmm2.2) (M := l.length) (.inl ⟨hmm2.1, Nat.le_refl _⟩) (by unfold maxLen; omega) ?_; intro w3 hM3 hg3)
                  obtain ⟨ρ', hG', hS'⟩ := GS.link hc2 hgB hU hxF hyF hM3 hg3 hS
                  have hgg := hg2.trans hg3
                  go_roundw
                  case rel => exact ⟨m + 1, by omega, by go_num, ⟨hOw.kept hgg (own_ne hOw), ⟨ρ', hG', hS'.iff (fun a b => by rw [← HX.out, ← HY.out]; exact edTo_hit (by omega) hlt (by rw [HX.out, HY.out]; exact HH.out) a b)⟩, hBl.grown hgg hBl.size (fun j hj => by injection hj with hj; omega)⟩, hA1.kept hgg (by simpa using hxB)⟩
                  case measure => simp [intOf]; omega
            · obtain rfl : m = k := by omega
              have hL1 := hL.row
              go_wp2
              go_roundw
              case rel => exact ⟨m + 1, by omega, by go_num, hL1⟩
              case measure => simp [intOf]; omega
        · obtain rfl : k = l.length := by omega
          obtain ⟨hOw, ⟨ρ, hG, hS⟩, hBl⟩ := hL
          have hS := hS.same (conn_all l)
          have hgl := hG.block
          have hgr0 := World.grownBy_alloc wr (.map #[] 0) none
          have hSl := (Mp.Own.sl hOw.1).alloc (.map #[] 0)
          have hG := hG.kept hgr0 (by simp) (by simp)
          have hpl := MapF.made (P := Try.prog) (k := 3) (p := fun _ => 0) wr
          have hBl1 := hBl.alloc hBl.size (.map #[] 0)
          have hlf := feats_len l
          have cN := k_normal hSl (by omega)
          have hmem := setL_mem (feats l)
          have hasc := setL_asc (feats l)
          have hal := setL_len (feats l)
          have hcl := fun (p : Int → Int) (hU : UF (feats l) p ρ) => grp_clS (E := Ed l) hmem hU hS
          obtain ⟨all, hAL⟩ : ∃ a, setL (feats l) = a := ⟨_, rfl⟩
          rw [hAL] at cN hmem hasc hal hcl
          have HCL := Lib.hid hcl
          have HAL := Lib.hid hAL
          clear hcl hOw hS hAL
          have hBpl : w.heap.size ≤ wr.heap.size := hBl.size
          obtain ⟨Bp, hBp⟩ : ∃ q, wr.heap.size = q := ⟨_, rfl⟩
          go_wp2_with fail
          refine cN.mono ?_
          rintro e w2 ⟨v2, rfl, hS2, hb2⟩
          rw [hBp] at hpl hgl hBpl
          have hg2 := below_gr hb2
          have hsz2 : Bp + 1 ≤ w2.heap.size := by have := hg2.size; simp at this; omega
          obtain ⟨A2, c2, rfl, _, hR2⟩ := hS2
          have hG2 := hG.kept hg2 (by simp) (by simp)
          have hpl2 := hpl.kept hg2 (by simp)
          have hBl2 := hBl1.grown hg2 (by simp; omega) (fun j hj => by cases hj)
          have hall : AllAt w2.heap.size B Bp A2 all w2 := by
            rcases hR2 with h | ⟨b, off, rfl, hb, hc⟩
            · exact .inl h
            · by_cases h0 : all = []
              · exact .inl h0
              · have hc' : ∀ j, j < all.length → w2.cell? ⟨b, off + j, none⟩ = some (.int .i64 all[j]!) := fun j hj => by simpa using hc j hj 0 _ rfl
                have hp : 0 < all.length := by rcases all with _ | _ <;> simp_all
                obtain ⟨_, _, p2, hM2, _⟩ := hG2
                exact .inr ⟨b, off, rfl, hb, Go.Proofs.MapF.ne_cell hM2 (hc' 0 hp), Go.Proofs.MapF.ne_cell hpl2 (hc' 0 hp), hc'⟩
          have hF0 : F4 w w2.heap.size g B Bp l A2 all ρ 0 (.slice none 0 0) w2 :=
            ⟨hG2, ⟨fun _ => 0, hpl2.keys_iff (fun z => by simp [rts]), fun i hi => by simp [rts] at hi⟩, by simpa [grp, rts] using Nest.nil w2 w2.heap.size _, hall, hBl2, Nat.le_refl _⟩
          have hW : ∃ W2, W2 = w2.heap.size ∧ w.heap.size ≤ W2 ∧ g < W2 ∧ B < W2 ∧ Bp < W2 := ⟨_, rfl, by omega, by omega, by omega, by omega⟩
          obtain ⟨W2, hW2, hW0, hWg, hWB, hWp⟩ := hW
          have hBB : B ≠ Bp := by omega
          have hgBp : g ≠ Bp := by omega
          have hbBp : w.heap.size ≤ Bp := hBpl
          rw [← hW2] at hF0
          clear hpl2 hBl2 hall hG2 hR2 hg2 hb2 hpl hG hBl1 hBl hSl cN hgr0 hBp hsz2 hgl hBpl
          go_wp2_with fail
          go_loopw [2, 81] (fun vo i wr => ∃ k : Nat, k ≤ all.length ∧ i = .int .i64 k ∧ F4 w W2 g B Bp l A2 all ρ k vo wr) (fun _ i _ => all.length - (intOf i).toNat)
          case atStart => exact ⟨0, by omega, rfl, hF0⟩
          case round =>
            clear hF0
            obtain ⟨k, hk, rfl, hF⟩ := hrel
            by_cases hlt : k < all.length
            · obtain ⟨hG, ⟨q, hM, hq⟩, hN, hA, hB, hsz⟩ := hF
              obtain ⟨b, off, rfl, c0⟩ := hA.get hlt
              have hxF : all[k]! ∈ feats l := (hmem _).1 (by rw [getElem!_pos all k hlt]; exact List.getElem_mem hlt)
              obtain ⟨_, _, p0, _, hU0⟩ := id hG
              have hcase := Lib.hid (round_cases hmem hU0 hasc hlt)
              clear hU0
              obtain ⟨x, hx⟩ : ∃ x, all[k]! = x := ⟨_, rfl⟩
              rw [hx] at c0 hxF hcase
              clear hx
              have hNm : l.length ≤ 1000000 := by omega
              go_wp2_with fail
              refine (first_any g B l.length (feats l) ρ hwf hNm x hxF wr hG).mono ?_
              rintro e w3 ⟨rfl, hG3, hg3⟩
              have hN3 := hN.kept hg3 (fun j hj => .inr (by injection hj with hj; omega))
              have hR3 : R4 w W2 g B Bp l (some ⟨b, off, none⟩) all ρ k (fun z => z ∈ rts ρ (all.take k)) q w3 :=
                ⟨hG3, hM.kept hg3 (by simpa using Ne.symm hBB), hA.kept hg3 (fun j hj => .inl (by injection hj with hj; omega)), hB.grown hg3 hB.size (fun j hj => by injection hj with hj; omega), Nat.le_trans hsz hg3.size⟩
              clear hN hM hA hB hG hg3 c0 hG3
              rcases hcase.out with ⟨hni, hxe, hrt, hgr⟩ | ⟨i, hi', hie, hin, hrt, hgr⟩
              · have htl : (all.take k).length ≤ all.length := by simp; omega
                have hgl : (grp ρ (all.take k)).length ≤ all.length := by rw [grp_len]; exact Nat.le_trans (List.length_filter_le _ _) htl
                have hMp := hR3.pl
                have hwx := hwf _ hxF
                rw [hxe] at hni ⊢
                have hgr' := Lib.hid hgr
                have hrt' := Lib.hid hrt
                have hxe' := Lib.hid hxe
                have hqL : ∀ i, i < (rts ρ (all.take k)).length → q (rts ρ (all.take k))[i]! = (i : Int) := hq
                have hrl : Hid ((rts ρ (all.take k)).length = (grp ρ (all.take k)).length) := Lib.hid (grp_len _ _).symm
                clear hgr hrt hcase hxe hq
                obtain ⟨vs, n1, n2, n3⟩ := hN3
                obtain ⟨A0, cc0, rfl⟩ := Own.slice n2.1
                rw [← n1] at hgl
                have hrl' : Hid ((rts ρ (all.take k)).length = vs.length) := Lib.hid (hrl.out.trans n1.symm)
                have hwL : (Lit.int .i64 (vs.length : Int)).wf = true := WalkArith.wf_i64 (by omega)
                obtain ⟨iS, hiS, hzS0, hzS1, hzS2⟩ := Mp.info_parts Try.infoS
                have hn1 := Lib.hid n1
                have hn2 := Lib.hid n2
                have hn3 := Lib.hid n3
                have hni' := Lib.hid hni
                clear n1 n2 n3 hrl
                go_wp2_with (first
                  | (at_lookup; refine MapF.look_ok hMp rfl _ _ rfl Try.underlying51 Try.underlying3 (Try.zero3 _) rfl x rfl hwx (fun h => absurd h hni) (fun _ c0 => ?_))
                  | (at_mapUpdate; refine MapF.store hMp rfl _ _ _ rfl Try.underlying51 Try.underlying3 rfl x (vs.length : Int) rfl rfl hwx hwL (M := k + 1) (.inr (Nat.le_refl _)) (by unfold maxLen; omega) ?_; intro w4 hM4 hg4; have n2' := hn2.out.kept hg4 (own_base_ne hn2.out hWp); have hsz4 := Nat.le_trans hR3.sz hg4.size)
                  | (at_builtin; (refine Mp.OwnA.append1 (enc := encV) 37 iS (.slice none 0 0) 24 Try.underlying37 hiS hzS0 hzS1 hzS2 rfl (by decide) (by decide) encV_len (.slice none 0 0) (encS_one (none, 0, 0)) rfl _ _ rfl n2' (fun j hj => hj.elim) rfl rfl (by omega) hsz4 ?_; intro v5 w5 hown5 hg5 hloc5; have hN5 := Nest.push hn1.out n2' (fun i hi => (hn3.out i hi).kept hg4 (own_base_ne (hn3.out i hi) hWp)) hg5 hloc5 hown5; have hown5b := fun j hj => (n2'.lt (j := j) hj).1; clear n2' hown5 hloc5; obtain ⟨g0, cap, ni, ci, rfl, hcap0, hb0, c5, f5, hIn, hcl5⟩ := hN5.getLast hn1.out.symm; clear hN5; have hHC := Lib.hid hcl5; clear hcl5; have h0g : g0 < w5.heap.size := World.block_lt_of_cell? _ _ c5; have hI2 := Lib.hid hIn.2; have hownLt := fun j hj => (hIn.lt (j := j) hj).1; have hsz5 := Nat.le_trans hsz4 hg5.size))
                  | (at_builtin; (refine Mp.OwnA.append1 (enc := Mp.encI) 23 i0 (.int .i64 0) 8 Try.underlying23 hi hz0 hz1 hz2 rfl (by decide) (by decide) encI_len x (encI_one _) rfl _ _ rfl hIn (av_g0 h0g) rfl rfl (by simp) hsz5 ?_; clear hIn; intro v6 w6 hown6 hg6 hloc6; obtain ⟨A6, cc6, rfl⟩ := Own.slice hown6.1; have hc6 := hg6.cell c5 (by intro e; exact hI2.out g0 e.symm (.inr rfl)); have hf6 : w6.frozen? ⟨g0, vs.length, none⟩ = false := (frozen_grown hg6 h0g (by intro e; exact hI2.out g0 e.symm (.inr rfl))).trans f5)))
                have hR4 : R4 w W2 g B Bp l (some ⟨b, off, none⟩) all ρ (k + 1) (fun z => z = x ∨ z ∈ rts ρ (all.take k)) (upd q x (vs.length : Int)) w4 :=
                  ⟨hR3.gs.kept hg4 (by simpa using hgBp) (by simpa using hBB), hM4, hR3.al.kept hg4 (fun j hj => .inr (.inl (by injection hj with hj; exact hj.symm))), hR3.bl.grown hg4 hR3.bl.size (fun j hj => by injection hj with hj; omega), hsz4⟩
                have hR5 := hR4.kept hW0 hWg hWB hWp hg5 hown5b
                have hR6 := hR5.kept hW0 hWg hWB hWp hg6 hownLt
                have hR7 := hR6.kept hW0 hWg hWB hWp (grown_set w6 g0 vs.length (.slice A6 1 cc6)) (fun j hj => by injection hj with hj; omega)
                have hN7 : Nest 23 3 (w6.setCell ⟨g0, vs.length, none⟩ (.slice A6 1 cc6)) W2 (fun _ => False) _ _ := hHC.out _ w6 x hown6 hg6 hloc6
                go_roundw
                case rel => exact ⟨k + 1, by omega, by go_num, ⟨hR7.gs, ⟨_, hR7.pl.keys_iff (fun z => by rw [hrt'.out]; simp [or_comm]), by rw [hrt'.out]; exact pl_new hni'.out hrl'.out hqL⟩, by rw [hgr'.out]; exact hN7, hR7.al, hR7.bl, hR7.sz⟩⟩
                case measure => simp [intOf]; omega
              · have hgl := grp_get_len ρ (all.take k) hi'
                have hil : i < (grp ρ (all.take k)).length := by rw [grp_len]; exact hi'
                have htl : (all.take k).length ≤ all.length := by simp; omega
                have hqi : Hid (q (ρ x) = (i : Int)) := Lib.hid (by rw [hie]; exact hq i hi')
                obtain ⟨g0, cap, vi, ni, ci, rfl, hcap0, hb0, rfl, c5, f5, hIn, hcl5⟩ := hN3.get hil
                have hwr : (Lit.int .i64 (ρ x)).wf = true := hwf _ (by obtain ⟨_, _, p, _, hU⟩ := hR3.gs; exact (hU.mem hxF).1)
                have hHC := Lib.hid hcl5
                have hMp := hR3.pl
                have hgr' := Lib.hid hgr
                have hrt' := Lib.hid hrt
                clear hgr hrt hcl5 hcase hie
                generalize (grp ρ (all.take k))[i]! = gi at *
                obtain ⟨L, hL⟩ : ∃ L, (grp ρ (all.take k)).length = L := ⟨_, rfl⟩
                rw [hL] at hil hcap0 ⊢
                have h0g : g0 < w3.heap.size := World.block_lt_of_cell? _ _ c5
                have hI2 := Lib.hid hIn.2
                have hownLt := fun j hj => (hIn.lt (j := j) hj).1
                go_wp2_with (first
                  | (at_lookup; refine MapF.look_ok hMp rfl _ _ rfl Try.underlying51 Try.underlying3 (Try.zero3 _) rfl (ρ x) rfl hwr (fun _ => ?_) (fun h => absurd hin h); rw [hqi.out])
                  | (at_builtin; (refine Mp.OwnA.append1 (enc := Mp.encI) 23 i0 (.int .i64 0) 8 Try.underlying23 hi hz0 hz1 hz2 rfl (by decide) (by decide) encI_len x (encI_one _) rfl _ _ rfl hIn (av_g0 h0g) rfl rfl (by omega) hR3.sz ?_; clear hIn; intro v5 w5 hown5 hg5 hloc5; obtain ⟨A5, cc5, rfl⟩ := Own.slice hown5.1; have hc5 := hg5.cell c5 (by intro e; exact hI2.out g0 e.symm (.inr rfl)); have hf5 : w5.frozen? ⟨g0, i, none⟩ = false := (frozen_grown hg5 h0g (by intro e; exact hI2.out g0 e.symm (.inr rfl))).trans f5)))
                have hR5 := hR3.kept hW0 hWg hWB hWp hg5 (fun j hj => (hownLt j hj))
                have hR6 := hR5.kept hW0 hWg hWB hWp (grown_set w5 g0 i (.slice A5 (gi.length + 1) cc5)) (fun j hj => by injection hj with hj; omega)
                have hN6 := hHC.out _ w5 x hown5 hg5 hloc5
                rw [show (gi ++ [x]).length = gi.length + 1 by simp, hL] at hN6
                go_roundw
                case rel => exact ⟨k + 1, by omega, by go_num, ⟨hR6.gs, ⟨q, by rw [hrt'.out]; exact hR6.pl.mono (by omega), by rw [hrt'.out]; exact hq⟩, by rw [hgr'.out]; exact hN6, hR6.al, hR6.bl, hR6.sz⟩⟩
                case measure => simp [intOf]; omega
            · obtain rfl : k = all.length := by omega
              obtain ⟨hG, _, hN, _, hB, _⟩ := hF
              obtain ⟨_, _, p0, _, hU0⟩ := hG
              rw [List.take_length] at hN
              rw [HCL.out p0 hU0] at hN
              go_wp2
              go_ret
              obtain ⟨vs, n1, n2, n3⟩ := hN
              exact ⟨_, rfl, by rw [HAL.out]; exact ⟨vs, n1, ⟨n2.1.mono hW0, n2.2⟩, fun i hi => ⟨(n3 i hi).1.mono hW0, (n3 i hi).2⟩⟩, hB⟩
end Go.Proofs
