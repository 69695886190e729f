import Derived.Test.YtoknjlodhohioaaT15
import Derived.OwnWalk
import Derived.Deep.RegionHeld3
import Derived.BigQuiet
set_option linter.unusedVariables false
set_option linter.unusedSimpArgs false
namespace Go.Proofs
open Go.RowKit Go.Proofs.Mp Go.Proofs.Uf Go.Maps

theorem RdC.get {w wr : World} {A : Option Addr} {xs : List Cand} (h : Rd 8 encC w A xs) (hb : Below w.heap.size w wr) {j : Nat} (hj : j < xs.length) :
    ∃ b off, A = some ⟨b, off, none⟩ ∧ b < w.heap.size ∧ wr.cell? ⟨b, off + j * 8, none⟩ = some (.int .i64 xs[j]!.f) ∧ wr.cell? ⟨b, off + j * 8 + 1, none⟩ = some (.int .i64 xs[j]!.x0) ∧ wr.cell? ⟨b, off + j * 8 + 2, none⟩ = some (.int .i64 xs[j]!.y0) ∧ wr.cell? ⟨b, off + j * 8 + 3, none⟩ = some (.int .i64 xs[j]!.x1)
      ∧ wr.cell? ⟨b, off + j * 8 + 4, none⟩ = some (.int .i64 xs[j]!.y1) ∧ wr.cell? ⟨b, off + j * 8 + 5, none⟩ = some (.int .i64 xs[j]!.ax) ∧ wr.cell? ⟨b, off + j * 8 + 6, none⟩ = some (.int .i64 xs[j]!.ay) ∧ wr.cell? ⟨b, off + j * 8 + 7, none⟩ = some (.int .i64 xs[j]!.co) := by
  obtain ⟨b, off, rfl, hlt, hc⟩ := Rd.get h hb hj
  exact ⟨b, off, rfl, hlt, hc j hj 0 _ rfl, hc j hj 1 _ rfl, hc j hj 2 _ rfl, hc j hj 3 _ rfl, hc j hj 4 _ rfl, hc j hj 5 _ rfl, hc j hj 6 _ rfl, hc j hj 7 _ rfl⟩

theorem RdC.cells {w wr : World} {b off : Nat} {xs : List Cand} (h : Rd 8 encC w (some ⟨b, off, none⟩) xs) (hb : Below w.heap.size w wr) {j : Nat} (hj : j < xs.length) :
    b < w.heap.size ∧ wr.cell? ⟨b, off + j * 8, none⟩ = some (.int .i64 xs[j]!.f) ∧ wr.cell? ⟨b, off + j * 8 + 1, none⟩ = some (.int .i64 xs[j]!.x0) ∧ wr.cell? ⟨b, off + j * 8 + 2, none⟩ = some (.int .i64 xs[j]!.y0) ∧ wr.cell? ⟨b, off + j * 8 + 3, none⟩ = some (.int .i64 xs[j]!.x1)
      ∧ wr.cell? ⟨b, off + j * 8 + 4, none⟩ = some (.int .i64 xs[j]!.y1) ∧ wr.cell? ⟨b, off + j * 8 + 5, none⟩ = some (.int .i64 xs[j]!.ax) ∧ wr.cell? ⟨b, off + j * 8 + 6, none⟩ = some (.int .i64 xs[j]!.ay) ∧ wr.cell? ⟨b, off + j * 8 + 7, none⟩ = some (.int .i64 xs[j]!.co) := by
  obtain ⟨b', off', he, r⟩ := RdC.get h hb hj
  injection he with he
  injection he with e1 e2
  subst e1; subst e2
  exact r
theorem below_gr {w w' : World} (h : Below w.heap.size w w') : w.grownBy w' none := ⟨h.os, h.tape, h.output, h.size, fun k hk _ => h.block k hk⟩

def avBg (g B : Nat) : Nat → Prop := fun j => j = B ∨ j = g
/-- what stands while the maps of parents is filled -/
def L1 (w : World) (g B : Nat) (l : List Cand) (k : Nat) (v : Value) (wr : World) : Prop :=
  OwnA 3 1 Mp.encI wr w.heap.size (avBg g B) v (feats (l.take k)) ∧ MapF Try.prog 3 wr B k (fun x => x ∈ feats (l.take k)) id ∧ wr.cell? ⟨g, 0, none⟩ = some (.map (some B)) ∧ Below w.heap.size w wr

theorem L1.start {w w0 : World} {l : List Cand} {v : Value} (hown : w0.ownsRow w.heap.size 3 1 v 0 []) (hg : w.grownBy w0 none) : L1 w (w0.heap.size + 1) w0.heap.size l 0 v ((w0.alloc (.map #[] 0)).alloc (.cells #[.map (some w0.heap.size)] 51)) := by
  have hb0 : Below w.heap.size w w0 := (Below.refl _ _).grown hg (Nat.le_refl _) (fun k hk => by cases hk)
  refine ⟨⟨?_, fun j hj => ?_⟩, ?_, ?_, ?_⟩
  · exact World.ownsRow.alloc (World.ownsRow.alloc hown _) _
  · have := (World.ownsRow.lt hown j hj).2
    unfold avBg
    omega
  · refine MapF.kept (row := none) ?_ (World.grownBy_alloc _ _ _) (by simp)
    exact (MapF.made w0).keys_iff fun x => by simp [feats]
  · simp
  · exact (hb0.alloc hb0.size _).alloc (by have := hb0.size; simp; omega) _

theorem alloc_size (w : World) (o : Obj) : (w.alloc o).heap.size = w.heap.size + 1 := by simp
theorem feats_take {l : List Cand} {k : Nat} (h : k < l.length) : feats (l.take (k + 1)) = feats (l.take k) ++ [l[k]!.f] := by
  unfold feats
  rw [List.take_succ_eq_append_getElem h, List.map_append]
  simp [h]
theorem feats_len (l : List Cand) : (feats l).length = l.length := by simp [feats]
theorem feats_take_len (l : List Cand) (k : Nat) : (feats (l.take k)).length ≤ l.length := by rw [feats_len]; simp; omega

theorem L1.av {w : World} {g B : Nat} {l : List Cand} {k : Nat} {v : Value} {wr : World} (h : L1 w g B l k v wr) : some B ≠ v.ownBlock ∧ some g ≠ v.ownBlock ∧ B < wr.heap.size ∧ g < wr.heap.size ∧ w.heap.size ≤ wr.heap.size ∧ ∀ j, avBg g B j → j < wr.heap.size := by
  obtain ⟨h1, h2, h3, h4⟩ := h
  have hB := h2.lt
  have hg := World.block_lt_of_cell? wr _ h3
  refine ⟨fun e => h1.2 B e.symm (.inl rfl), fun e => h1.2 g e.symm (.inr rfl), hB, hg, h4.size, ?_⟩
  rintro j (rfl | rfl)
  · exact hB
  · exact hg

theorem L1.mid {w : World} {g B : Nat} {l : List Cand} {k : Nat} {v : Value} {wr w1 : World} {o : Obj} (h : L1 w g B l k v wr) (hg1 : (wr.alloc o).grownBy w1 v.ownBlock) :
    MapF Try.prog 3 w1 B k (fun x => x ∈ feats (l.take k)) id ∧ w1.cell? ⟨g, 0, none⟩ = some (.map (some B)) ∧ ∀ (j : Nat) u, (wr.alloc o).cell? ⟨wr.heap.size, j, none⟩ = some u → w1.cell? ⟨wr.heap.size, j, none⟩ = some u := by
  obtain ⟨hB, hgn, hBl, hgl, hs, _⟩ := h.av
  obtain ⟨h1, h2, h3, h4⟩ := h
  refine ⟨(h2.kept (row := none) (World.grownBy_alloc wr o none) (by simp)).kept hg1 hB, World.grownBy.cell hg1 (World.grownBy.cell (World.grownBy_alloc wr o none) h3 (by simp)) hgn, fun j u hu => World.grownBy.cell hg1 hu ?_⟩
  intro e
  have := (h1.lt e.symm).2
  simp at this

theorem L1.step {w : World} {g B : Nat} {l : List Cand} {k : Nat} {v v1 : Value} {wr w1 w2 : World} {o : Obj} (h : L1 w g B l k v wr) (hk : k < l.length) (hgB : g ≠ B) (hbB : w.heap.size ≤ B)
    (hown1 : OwnA 3 1 Mp.encI w1 w.heap.size (avBg g B) v1 (feats (l.take k) ++ [l[k]!.f])) (hg1 : (wr.alloc o).grownBy w1 v.ownBlock)
    (hM2 : MapF Try.prog 3 w2 B (k + 1) (fun z => z = l[k]!.f ∨ z ∈ feats (l.take k)) (upd id l[k]!.f l[k]!.f)) (hg2 : w1.grownBy w2 (some B)) : L1 w g B l (k + 1) v1 w2 := by
  obtain ⟨_, hc1, _⟩ := h.mid hg1
  obtain ⟨hB, hgn, hBl, hgl, hs, _⟩ := h.av
  obtain ⟨h1, h2, h3, h4⟩ := h
  refine ⟨?_, ?_, ?_, ?_⟩
  · rw [feats_take hk]
    refine hown1.kept hg2 ?_
    rcases ho : v1.ownBlock with _ | j
    · exact .inl rfl
    · right
      intro e
      injection e with e
      exact hown1.2 j ho (.inl e)
  · refine (hM2.keys_iff fun z => ?_).fn fun z hz => ?_
    · rw [feats_take hk]; simp [or_comm]
    · by_cases he : z = l[k]!.f
      · subst he; rw [upd_same]; rfl
      · rw [upd_ne _ _ _ he]
  · exact World.grownBy.cell hg2 hc1 (by simpa using hgB)
  · exact ((h4.alloc hs o).grown hg1 (by simp; omega) (fun j hj => (h1.lt hj).1)).grown hg2 (Nat.le_trans (by simp; omega) hg1.size) (fun j hj => by injection hj with hj; omega)

/-- what stands while the pairs are gone through -/
def L2 (w : World) (g B : Nat) (l : List Cand) (i j : Nat) (v : Value) (wr : World) : Prop :=
  OwnA 3 1 Mp.encI wr w.heap.size (avBg g B) v (feats l) ∧ (∃ ρ, GS wr g B l.length (feats l) ρ ∧ SoundR (feats l) ρ (EdTo l i j)) ∧ Below w.heap.size w wr

theorem L1.done {w : World} {g B : Nat} {l : List Cand} {v : Value} {wr : World} (h : L1 w g B l l.length v wr) (hgB : g ≠ B) : L2 w g B l 0 0 v wr := by
  obtain ⟨h1, h2, h3, h4⟩ := h
  rw [List.take_length] at h1 h2
  exact ⟨h1, ⟨id, ⟨h3, hgB, id, h2, UF.start _ _ fun x _ => rfl⟩, SoundR.start _ _ (edTo_zero l)⟩, h4⟩
theorem L2.row {w : World} {g B : Nat} {l : List Cand} {i : Nat} {v : Value} {wr : World} (h : L2 w g B l i i v wr) : L2 w g B l (i + 1) 0 v wr := by
  obtain ⟨h1, ⟨ρ, h2, h3⟩, h4⟩ := h
  exact ⟨h1, ⟨ρ, h2, h3.iff fun x y => (edTo_row l i x y).symm⟩, h4⟩
theorem GS.kept {w w' : World} {g B N : Nat} {F : List Int} {ρ : Int → Int} (h : GS w g B N F ρ) {row : Option Nat} (hg : w.grownBy w' row) (h1 : some g ≠ row) (h2 : some B ≠ row) : GS w' g B N F ρ := by
  obtain ⟨a, b, p, c, d⟩ := h
  exact ⟨World.grownBy.cell hg a h1, b, p, c.kept hg h2, d⟩
theorem L2.none {w : World} {g B : Nat} {l : List Cand} {i j : Nat} {v : Value} {wr w' : World} (h : L2 w g B l i j v wr) (hg : wr.grownBy w' Option.none) (hbase : w.heap.size ≤ wr.heap.size) : L2 w g B l i j v w' := by
  obtain ⟨h1, ⟨ρ, h2, h3⟩, h4⟩ := h
  refine ⟨h1.kept hg ?_, ⟨ρ, h2.kept hg (by simp) (by simp), h3⟩, h4.grown hg hbase (fun k hk => by cases hk)⟩
  rcases v.ownBlock with _ | q
  · exact .inl rfl
  · exact .inr (by simp)

/-- a candidate's block -/
def CandAt (w : World) (b : Nat) (x : Cand) : Prop :=
  w.cell? ⟨b, 0, none⟩ = some (.int .i64 x.f) ∧ w.cell? ⟨b, 1, none⟩ = some (.int .i64 x.x0) ∧ w.cell? ⟨b, 2, none⟩ = some (.int .i64 x.y0) ∧ w.cell? ⟨b, 3, none⟩ = some (.int .i64 x.x1) ∧
  w.cell? ⟨b, 4, none⟩ = some (.int .i64 x.y1) ∧ w.cell? ⟨b, 5, none⟩ = some (.int .i64 x.ax) ∧ w.cell? ⟨b, 6, none⟩ = some (.int .i64 x.ay) ∧ w.cell? ⟨b, 7, none⟩ = some (.int .i64 x.co)
theorem CandAt.kept {w w' : World} {b : Nat} {x : Cand} (h : CandAt w b x) {row : Option Nat} (hg : w.grownBy w' row) (hne : some b ≠ row) : CandAt w' b x := by
  obtain ⟨h0, h1, h2, h3, h4, h5, h6, h7⟩ := h
  exact ⟨hg.cell h0 hne, hg.cell h1 hne, hg.cell h2 hne, hg.cell h3 hne, hg.cell h4 hne, hg.cell h5 hne, hg.cell h6 hne, hg.cell h7 hne⟩
theorem CandAt.lt {w : World} {b : Nat} {x : Cand} (h : CandAt w b x) : b < w.heap.size := World.block_lt_of_cell? w _ h.1
abbrev candObj (x : Cand) : Obj := .cells #[.int .i64 x.f, .int .i64 x.x0, .int .i64 x.y0, .int .i64 x.x1, .int .i64 x.y1, .int .i64 x.ax, .int .i64 x.ay, .int .i64 x.co] 27
theorem CandAt.new (w : World) (x : Cand) : CandAt (w.alloc (.cells #[.int .i64 x.f, .int .i64 x.x0, .int .i64 x.y0, .int .i64 x.x1, .int .i64 x.y1, .int .i64 x.ax, .int .i64 x.ay, .int .i64 x.co] 27)) w.heap.size x := by
  refine ⟨?_, ?_, ?_, ?_, ?_, ?_, ?_, ?_⟩ <;> simp

/-- the world of the region in which both roots are asked for -/
def HS (w1 : World) (g B N : Nat) (F : List Int) (ρ : Int → Int) (xb yb : Nat) (xf yf : Int) (W : World) : Prop := GS W g B N F ρ ∧ w1.grownBy W (some B) ∧ xb < w1.heap.size ∧ yb < w1.heap.size ∧ xb ≠ B ∧ yb ≠ B
theorem first_step (g B N : Nat) (F : List Int) (ρ : Int → Int) (hwf : wfs F) (hN : N ≤ 1000000) (w1 : World) (xb yb : Nat) (xf yf : Int) (z : Int) (hz : z ∈ F) (W : World)
    (h : W.cell? ⟨xb, 0, none⟩ = some (.int .i64 xf) ∧ W.cell? ⟨yb, 0, none⟩ = some (.int .i64 yf) ∧ HS w1 g B N F ρ xb yb xf yf W) :
    Calls Try.prog 28 #[.int .i64 z, .pointer (some ⟨g, 0, none⟩)] W fun e w' => e = .returned (.int .i64 (ρ z)) ∧ (w'.cell? ⟨xb, 0, none⟩ = some (.int .i64 xf) ∧ w'.cell? ⟨yb, 0, none⟩ = some (.int .i64 yf) ∧ HS w1 g B N F ρ xb yb xf yf w') := by
  obtain ⟨h1, h2, hG, hg, q1, q2, q3, q4⟩ := h
  exact (first_any g B N F ρ hwf hN z hz W hG).mono fun e w' ⟨he, hG', hg'⟩ => ⟨he, hg'.cell h1 (by simpa using q3), hg'.cell h2 (by simpa using q4), hG', hg.trans hg', q1, q2, q3, q4⟩

theorem GS.link {w w' : World} {g B N : Nat} {F : List Int} {ρ p : Int → Int} (hc : w.cell? ⟨g, 0, none⟩ = some (.map (some B))) (hgB : g ≠ B) (hU : UF F p ρ) {a b : Int} (ha : a ∈ F) (hb : b ∈ F)
    (hM : MapF Try.prog 3 w' B N (fun z => z = max (ρ a) (ρ b) ∨ z ∈ F) (upd p (max (ρ a) (ρ b)) (min (ρ a) (ρ b)))) (hg : w.grownBy w' (some B)) {E : Int → Int → Prop} (hS : SoundR F ρ E) :
    ∃ ρ', GS w' g B N F ρ' ∧ SoundR F ρ' (more E a b) := by
  have hma := (hU.mem ha).1
  have hmb := (hU.mem hb).1
  have hsa := hU.self ha
  have hsb := hU.self hb
  have key : ∀ m n, ((m = ρ a ∧ n = ρ b) ∨ (m = ρ b ∧ n = ρ a)) → m ≤ n → MapF Try.prog 3 w' B N (fun z => z = n ∨ z ∈ F) (upd p n m) → ∃ ρ', GS w' g B N F ρ' ∧ SoundR F ρ' (more E a b) := by
    intro m n hmn hle hM
    have hmF : m ∈ F := by rcases hmn with ⟨rfl, rfl⟩ | ⟨rfl, rfl⟩ <;> assumption
    have hnF : n ∈ F := by rcases hmn with ⟨rfl, rfl⟩ | ⟨rfl, rfl⟩ <;> assumption
    have hpm : p m = m := by rcases hmn with ⟨rfl, rfl⟩ | ⟨rfl, rfl⟩ <;> assumption
    have hpn : p n = n := by rcases hmn with ⟨rfl, rfl⟩ | ⟨rfl, rfl⟩ <;> assumption
    exact ⟨join ρ n m, ⟨hg.cell hc (by simpa using hgB), hgB, _, MapF.reF hnF hM, hU.link hmF hpm hpn hle⟩, hS.join hU ha hb hmn⟩
  rcases Int.le_total (ρ a) (ρ b) with h | h
  · rw [Int.max_eq_right h, Int.min_eq_left h] at hM
    exact key _ _ (.inl ⟨rfl, rfl⟩) h hM
  · rw [Int.max_eq_left h, Int.min_eq_right h] at hM
    exact key _ _ (.inr ⟨rfl, rfl⟩) h hM

theorem mm_mem {F : List Int} {a b : Int} (ha : a ∈ F) (hb : b ∈ F) : max a b ∈ F ∧ min a b ∈ F := by
  rcases Int.le_total a b with h | h
  · rw [Int.max_eq_right h, Int.min_eq_left h]; exact ⟨hb, ha⟩
  · rw [Int.max_eq_left h, Int.min_eq_right h]; exact ⟨ha, hb⟩
theorem grown_drew (w : World) (row : Option Nat) : w.grownBy w.drew row := ⟨rfl, rfl, rfl, Nat.le_refl _, fun _ _ _ => rfl⟩
theorem own_ne {v : Value} {e k : Nat} {α : Type} {enc : α → List Value} {w : World} {base : Nat} {g B : Nat} {xs : List α} (h : OwnA e k enc w base (avBg g B) v xs) : v.ownBlock = none ∨ v.ownBlock ≠ some B := by
  rcases ho : v.ownBlock with _ | j
  · exact .inl rfl
  · right
    intro e
    injection e with e
    exact h.2 j ho (.inl e)

theorem Mp.Own.sl {w : World} {base : Nat} {v : Value} {xs : List Int} (h : OwnI 3 w base v xs) : SlI w v xs := by
  have h0 := own_held h
  have h1 := h0
  rcases h0 with ⟨A, c, rfl, rfl⟩ | ⟨g, c, rfl, _, _, hc, _⟩
  · exact ⟨A, c, rfl, Nat.zero_le _, Rd.nil _⟩
  · exact ⟨_, c, rfl, hc, (held_rd h1).2⟩

theorem MapF.ne_cell {P : Program} {k : TypeId} {w : World} {B N : Nat} {keys : Int → Prop} {p : Int → Int} (h : MapF P k w B N keys p) {b o : Nat} {v : Value} (hc : w.cell? ⟨b, o, none⟩ = some v) : b ≠ B := by
  rintro rfl
  obtain ⟨D, ⟨es, clock, hh, _⟩, _⟩ := h
  simp [World.cell?, hh] at hc

/-- the list all lies at A, in a block that the last loop does not write -/
def AllAt (W2 B Bp : Nat) (A : Option Addr) (all : List Int) (wr : World) : Prop :=
  all = [] ∨ ∃ b off, A = some ⟨b, off, none⟩ ∧ b < W2 ∧ b ≠ B ∧ b ≠ Bp ∧ ∀ j, j < all.length → wr.cell? ⟨b, off + j, none⟩ = some (.int .i64 all[j]!)
theorem AllAt.kept {W2 B Bp : Nat} {A : Option Addr} {all : List Int} {w w' : World} (h : AllAt W2 B Bp A all w) {row : Option Nat} (hg : w.grownBy w' row) (hrow : ∀ j, row = some j → j = B ∨ j = Bp ∨ W2 ≤ j) : AllAt W2 B Bp A all w' := by
  rcases h with h | ⟨b, off, hA, h1, h2, h3, h4⟩
  · exact .inl h
  · refine .inr ⟨b, off, hA, h1, h2, h3, fun j hj => hg.cell (h4 j hj) ?_⟩
    intro e
    rcases hrow b e.symm with h | h | h <;> omega
theorem AllAt.get {W2 B Bp : Nat} {A : Option Addr} {all : List Int} {w : World} (h : AllAt W2 B Bp A all w) {j : Nat} (hj : j < all.length) : ∃ b off, A = some ⟨b, off, none⟩ ∧ w.cell? ⟨b, off + j, none⟩ = some (.int .i64 all[j]!) := by
  rcases h with rfl | ⟨b, off, hA, _, _, _, h4⟩
  · simp at hj
  · exact ⟨b, off, hA, h4 j hj⟩

/-- what stands while the groups are gathered -/
structure F4 (w : World) (W2 g B Bp : Nat) (l : List Cand) (A : Option Addr) (all : List Int) (ρ : Int → Int) (k : Nat) (vo : Value) (wr : World) : Prop where
  gs : GS wr g B l.length (feats l) ρ
  pl : ∃ q, MapF Try.prog 3 wr Bp k (fun z => z ∈ rts ρ (all.take k)) q ∧ ∀ i, i < (rts ρ (all.take k)).length → q (rts ρ (all.take k))[i]! = (i : Int)
  ne : Nest 38 3 wr W2 (fun _ => False) vo (grp ρ (all.take k))
  al : AllAt W2 B Bp A all wr
  bl : Below w.heap.size w wr
  sz : W2 ≤ wr.heap.size

theorem take_snoc {all : List Int} {k : Nat} (h : k < all.length) : all.take (k + 1) = all.take k ++ [all[k]!] := by
  rw [List.take_succ_eq_append_getElem h]
  simp [h]
/-- of an ascending list of features: what was met before is less -/
theorem asc_take {all : List Int} (h : Asc all) {k : Nat} (hk : k < all.length) : ∀ y ∈ all.take k, y < all[k]! := by
  intro y hy
  obtain ⟨i, hi, rfl⟩ := List.getElem_of_mem hy
  have hi' : i < k := by simp at hi; omega
  rw [List.getElem_take, getElem!_pos all k hk]
  exact (List.pairwise_iff_getElem.1 h) i k (by omega) hk hi'
theorem asc_mem_take {all : List Int} (h : Asc all) {k : Nat} (hk : k < all.length) {y : Int} (hy : y ∈ all) (hlt : y < all[k]!) : y ∈ all.take k := by
  obtain ⟨i, hi, rfl⟩ := List.getElem_of_mem hy
  rw [getElem!_pos all k hk] at hlt
  have : i < k := by
    rcases Nat.lt_trichotomy i k with h1 | rfl | h1
    · exact h1
    · omega
    · have := (List.pairwise_iff_getElem.1 h) k i hk hi h1; omega
  rw [List.mem_take_iff_getElem]
  exact ⟨i, by omega, rfl⟩

/-- the two cases of the last loop's round -/
theorem round_cases {all F : List Int} {p ρ : Int → Int} (hF : ∀ x, x ∈ all ↔ x ∈ F) (hU : UF F p ρ) (hasc : Asc all) {k : Nat} (hk : k < all.length) :
    (ρ all[k]! ∉ rts ρ (all.take k) ∧ ρ all[k]! = all[k]! ∧ rts ρ (all.take (k + 1)) = rts ρ (all.take k) ++ [all[k]!] ∧ grp ρ (all.take (k + 1)) = grp ρ (all.take k) ++ [[all[k]!]]) ∨
    (∃ i, i < (rts ρ (all.take k)).length ∧ ρ all[k]! = (rts ρ (all.take k))[i]! ∧ ρ all[k]! ∈ rts ρ (all.take k) ∧ rts ρ (all.take (k + 1)) = rts ρ (all.take k) ∧ grp ρ (all.take (k + 1)) = (grp ρ (all.take k)).set i ((grp ρ (all.take k))[i]! ++ [all[k]!])) := by
  have hx : all[k]! ∈ all := by rw [getElem!_pos all k hk]; exact List.getElem_mem hk
  have hxF := (hF _).1 hx
  have hm := hU.mem hxF
  have hid := hU.idem hxF
  have hlt := asc_take hasc hk
  by_cases he : ρ all[k]! = all[k]!
  · left
    refine ⟨fun h => ?_, he, by rw [take_snoc hk, rts_new he], ?_⟩
    · have h1 := (List.mem_filter.1 h).1
      have := hlt _ h1
      omega
    · rw [take_snoc hk]
      refine grp_new hlt (fun y hy => ?_) he
      exact (hU.mem ((hF y).1 (List.mem_of_mem_take hy))).2
  · right
    have hin : ρ all[k]! ∈ rts ρ (all.take k) := by
      refine List.mem_filter.2 ⟨asc_mem_take hasc hk ((hF _).2 hm.1) (by omega), by simpa using hid⟩
    obtain ⟨i, hi, hie⟩ := List.getElem_of_mem hin
    refine ⟨i, hi, by rw [getElem!_pos _ i hi, hie], hin, by rw [take_snoc hk, rts_old he], ?_⟩
    rw [take_snoc hk]
    refine grp_old ?_ he hi (by rw [getElem!_pos _ i hi, hie])
    exact List.Pairwise.filter _ (List.Pairwise.sublist (List.take_sublist _ _) hasc)

theorem grown_set (w : World) (g i : Nat) (v : Value) : w.grownBy (w.setCell ⟨g, i, none⟩ v) (some g) :=
  ⟨rfl, rfl, rfl, by simp [World.setCell], fun k _ hk => heap_setCell_other w ⟨g, i, none⟩ k v (fun e => hk (by simp [e]))⟩
theorem own_base_ne {α : Type} {e k : Nat} {enc : α → List Value} {w : World} {base : Nat} {av : Nat → Prop} {v : Value} {xs : List α} (h : OwnA e k enc w base av v xs) {j : Nat} (hj : j < base) : v.ownBlock = none ∨ v.ownBlock ≠ some j := by
  rcases ho : v.ownBlock with _ | m
  · exact .inl rfl
  · right
    intro e
    injection e with e
    have := (h.lt ho).1
    omega
theorem grp_get_len (ρ : Int → Int) (pre : List Int) {i : Nat} (h : i < (rts ρ pre).length) : (grp ρ pre)[i]!.length ≤ pre.length := by
  rw [grp_get ρ pre h]
  exact List.length_filter_le _ _

/-- what lies beside the groups -/
structure R4 (w : World) (W2 g B Bp : Nat) (l : List Cand) (A : Option Addr) (all : List Int) (ρ : Int → Int) (M : Nat) (keys : Int → Prop) (q : Int → Int) (wr : World) : Prop where
  gs : GS wr g B l.length (feats l) ρ
  pl : MapF Try.prog 3 wr Bp M keys q
  al : AllAt W2 B Bp A all wr
  bl : Below w.heap.size w wr
  sz : W2 ≤ wr.heap.size
theorem R4.kept {w : World} {W2 g B Bp : Nat} {l : List Cand} {A : Option Addr} {all : List Int} {ρ : Int → Int} {M : Nat} {keys : Int → Prop} {q : Int → Int} {wr w' : World} (h : R4 w W2 g B Bp l A all ρ M keys q wr)
    (hw : w.heap.size ≤ W2) (h1 : g < W2) (h2 : B < W2) (h3 : Bp < W2) {row : Option Nat} (hg : wr.grownBy w' row) (hrow : ∀ j, row = some j → W2 ≤ j) : R4 w W2 g B Bp l A all ρ M keys q w' := by
  have ne : ∀ j, j < W2 → some j ≠ row := fun j hj e => by have := hrow j e.symm; omega
  exact ⟨h.gs.kept hg (ne g h1) (ne B h2), h.pl.kept hg (ne Bp h3), h.al.kept hg fun j hj => .inr (.inr (hrow j hj)), h.bl.grown hg h.bl.size (fun j hj => Nat.le_trans hw (hrow j hj)), Nat.le_trans h.sz hg.size⟩

section
variable {te ti : TypeId} {w w' : World} {base : Nat} {av : Nat → Prop} {vout : Value} {gs : List (List Int)}
theorem Mp.Nest.getLast (h : Nest te ti w base av vout (gs ++ [[]])) {L : Nat} (hL : gs.length = L) : ∃ g cap ni ci, vout = .slice (some ⟨g, 0, none⟩) (L + 1) cap ∧ L + 1 ≤ cap ∧ base ≤ g ∧ w.cell? ⟨g, L, none⟩ = some (.slice ni 0 ci) ∧ w.frozen? ⟨g, L, none⟩ = false ∧ OwnA ti 1 Mp.encI w base (fun j => av j ∨ j = g) (.slice ni 0 ci) [] ∧
    ∀ v' w' x, OwnA ti 1 Mp.encI w' base (fun j => av j ∨ j = g) v' [x] → w.grownBy w' (Value.slice ni 0 ci).ownBlock → (v'.ownBlock = (Value.slice ni 0 ci).ownBlock ∨ ∃ j, v'.ownBlock = some j ∧ w.heap.size ≤ j) →
      Nest te ti (w'.setCell ⟨g, L, none⟩ v') base av vout (gs ++ [[x]]) := by
  subst hL
  have e1 : (gs ++ [[]])[gs.length]! = ([] : List Int) := by simp
  obtain ⟨g, cap, vi, ni, ci, hv, hc, hb, hvi, hcell, hf, hin, hcl⟩ := h.get (i := gs.length) (by simp)
  rw [e1] at hvi hin hcl
  simp only [List.length_append, List.length_singleton] at hv hc
  subst hvi
  refine ⟨g, cap, ni, ci, hv, hc, hb, hcell, hf, hin, fun v' w' x h1 h2 h3 => ?_⟩
  have := hcl v' w' x h1 h2 h3
  have e2 : (gs ++ [[]]).set gs.length ([] ++ [x]) = gs ++ [[x]] := by simp
  rwa [e2] at this
end
theorem Try.infoS : (Try.prog.info? 38).map (fun i => (i.zero, i.size, i.bytes)) = some (some (.slice none 0 0), 1, 24) := by kernel_rfl
theorem encS_one (xs : Option Addr × Nat × Nat) : ∀ u ∈ encV (.slice xs.1 xs.2.1 xs.2.2), u.oneCell' = true := by
  intro u hu
  simp only [encV, List.mem_singleton] at hu
  subst hu; rfl
theorem frozen_grown {w w' : World} {row : Option Nat} (hg : w.grownBy w' row) {g i : Nat} (hlt : g < w.heap.size) (hne : some g ≠ row) : w'.frozen? ⟨g, i, none⟩ = w.frozen? ⟨g, i, none⟩ :=
  World.frozen?_of_block (hg.block g hlt hne)
theorem av_g0 {g0 n : Nat} (h : g0 < n) : ∀ j, (False ∨ j = g0) → j < n := by
  rintro j (h' | rfl)
  · exact h'.elim
  · exact h
theorem pl_new {R : List Int} {q : Int → Int} {x : Int} {L : Nat} (hx : x ∉ R) (hL : R.length = L) (hq : ∀ i, i < R.length → q R[i]! = (i : Int)) : ∀ i, i < (R ++ [x]).length → (upd q x (L : Int)) (R ++ [x])[i]! = (i : Int) := by
  intro i hi
  simp only [List.length_append, List.length_singleton] at hi
  by_cases h : i < R.length
  · have e : (R ++ [x])[i]! = R[i]! := by
      rw [getElem!_pos (R ++ [x]) i (by simp; omega), getElem!_pos R i h, List.getElem_append_left h]
    rw [e, upd_ne, hq i h]
    intro e2
    apply hx
    rw [← e2, getElem!_pos R i h]
    exact List.getElem_mem h
  · have : i = R.length := by omega
    subst this
    have e : (R ++ [x])[R.length]! = x := by simp
    rw [e, upd_same, hL]
end Go.Proofs
