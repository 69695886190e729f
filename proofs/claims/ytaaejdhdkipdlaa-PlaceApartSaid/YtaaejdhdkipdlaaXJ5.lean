/- Lemmas and walks; no statement of a law is proved here. -/
import Derived.Test.YtaaejdhdkipdlaaXT24
import Derived.Deep.MidRow
import Derived.Deep.WholeRow
set_option linter.unusedVariables false
set_option linter.unusedSimpArgs false
namespace Go.Proofs
open Go.RowKit Go.Proofs.Mp Go.Proofs.Uf

abbrev Sl3 : Type := Option Addr × Nat × List Int
/-- the blocks in which the lists lie -/
def blk (ls : List Sl3) : Nat → Prop := fun j => ∃ s ∈ ls, ∃ a, s.1 = some a ∧ a.block = j
/-- lists that are read, each in a block that is there -/
def AllRd (w : World) (ls : List Sl3) : Prop := ∀ s ∈ ls, RdI w s.1 s.2.2 ∧ ∀ a, s.1 = some a → a.block < w.heap.size

theorem rdI_kept {w w' : World} {A : Option Addr} {xs : List Int} (h : RdI w A xs) {row : Option Nat} (hg : w.grownBy w' row) (hne : ∀ a, A = some a → some a.block ≠ row) : RdI w' A xs := by
  rcases h with rfl | ⟨b, off, rfl, hb, hc⟩
  · exact .inl rfl
  · refine .inr ⟨b, off, rfl, Nat.lt_of_lt_of_le hb hg.size, fun j hj i u hu => hg.cell (hc j hj i u hu) (hne ⟨b, off, none⟩ rfl)⟩
theorem AllRd.kept {w w' : World} {ls : List Sl3} (h : AllRd w ls) {row : Option Nat} (hg : w.grownBy w' row) (hne : ∀ j, row = some j → ¬ blk ls j) : AllRd w' ls := by
  intro s hs
  obtain ⟨h1, h2⟩ := h s hs
  refine ⟨rdI_kept h1 hg fun a ha e => hne _ e.symm ⟨s, hs, a, ha, rfl⟩, fun a ha => Nat.lt_of_lt_of_le (h2 a ha) hg.size⟩
theorem AllRd.lt {w : World} {ls : List Sl3} (h : AllRd w ls) : ∀ j, blk ls j → j < w.heap.size := by
  rintro j ⟨s, hs, a, ha, rfl⟩
  exact (h s hs).2 a ha
theorem AllRd.none {w w' : World} {ls : List Sl3} (h : AllRd w ls) (hg : w.grownBy w' Option.none) : AllRd w' ls := h.kept hg (fun j e => by cases e)

/-- the groups of the first k features that are the least of their groups -/
noncomputable def clTo (E : Int → Int → Prop) (all : List Int) (k : Nat) : List (List Int) := ((all.take k).filter fun x => dec (∀ y ∈ all, Conn E x y → x ≤ y)).map fun r => all.filter fun x => dec (Conn E r x)
theorem clTo_all (E : Int → Int → Prop) (all : List Int) : clTo E all all.length = clS E all := by unfold clTo clS; rw [List.take_length]
theorem clTo_yes {E : Int → Int → Prop} {all : List Int} {k : Nat} (hk : k < all.length) (h : ∀ y ∈ all, Conn E all[k]! y → all[k]! ≤ y) : clTo E all (k + 1) = clTo E all k ++ [all.filter fun x => dec (Conn E all[k]! x)] := by
  unfold clTo
  rw [take_snoc hk, List.filter_append, List.map_append, List.filter_cons, if_pos ((dec_iff _).2 h)]
  rfl
theorem clTo_no {E : Int → Int → Prop} {all : List Int} {k : Nat} (hk : k < all.length) (h : ¬ ∀ y ∈ all, Conn E all[k]! y → all[k]! ≤ y) : clTo E all (k + 1) = clTo E all k := by
  unfold clTo
  have e : dec (∀ y ∈ all, Conn E all[k]! y → all[k]! ≤ y) = false := dec_eq (by simpa using h)
  rw [take_snoc hk, List.filter_append, List.map_append, List.filter_cons, if_neg (by rw [e]; simp)]
  simp
/-- the first of the members of an ascending list that are linked to f is f exactly if f is the least of them -/
theorem head_iff {E : Int → Int → Prop} {all : List Int} (hasc : Asc all) {f : Int} (hf : f ∈ all) : ∃ h t, (all.filter fun x => dec (Conn E f x)) = h :: t ∧ (h = f ↔ ∀ y ∈ all, Conn E f y → f ≤ y) := by
  have hm : f ∈ all.filter fun x => dec (Conn E f x) := List.mem_filter.2 ⟨hf, (dec_iff _).2 (.refl _)⟩
  have hs : Asc (all.filter fun x => dec (Conn E f x)) := List.Pairwise.filter _ hasc
  have hmem : ∀ y, y ∈ (all.filter fun x => dec (Conn E f x)) ↔ y ∈ all ∧ Conn E f y := fun y => by rw [List.mem_filter, dec_iff]
  rcases hl : (all.filter fun x => dec (Conn E f x)) with _ | ⟨h, t⟩
  · rw [hl] at hm; cases hm
  · rw [hl] at hm hs hmem
    refine ⟨h, t, rfl, ?_⟩
    have hle : ∀ y, y ∈ h :: t → h ≤ y := fun y hy => by
      rcases List.mem_cons.1 hy with rfl | hy
      · exact Int.le_refl _
      · exact Int.le_of_lt ((List.pairwise_cons.1 hs).1 y hy)
    constructor
    · rintro rfl y hy hc
      exact hle y ((hmem y).2 ⟨hy, hc⟩)
    · intro hmin
      have h1 := hle f hm
      obtain ⟨h2, h3⟩ := (hmem h).1 List.mem_cons_self
      have := hmin h h2 h3
      omega
end Go.Proofs
set_option linter.unusedVariables false
set_option linter.unusedSimpArgs false
namespace Go.Proofs
open Go.RowKit Go.Proofs.Mp Go.Proofs.Uf

theorem encSl_one (s : Sl3) : ∀ u ∈ encSl s, u.oneCell' = true := by
  intro u hu
  simp only [encSl, List.mem_singleton] at hu
  subst hu; rfl
theorem grpS_of {w : World} {base : Nat} {av : Nat → Prop} {v : Value} {ls : List Sl3} (h : OwnA 23 1 encSl w base av v ls) (hr : AllRd w ls) : GrpS w v (ls.map fun s => s.2.2) := by
  obtain ⟨A, c, rfl⟩ := Own.slice h.1
  exact ⟨A, c, ls, by rw [List.length_map], rfl, Own.rd encSl_len h.1, fun s hs => (hr s hs).1⟩

set_option maxRecDepth 100000 in
set_option maxHeartbeats 4000000 in
theorem ref_clusters (A : Option Addr) (c : Nat) (l : List Cand) (w : World) (hmax : l.length ≤ 1000) (hR : Rd 8 encC w A l) :
    Calls Try.prog 45 #[.slice A l.length c] w (fun e w' => ∃ v, e = .returned v ∧ GrpS w' v (clS (Ed l) (setL (feats l))) ∧ Below w.heap.size w w') := by
  obtain ⟨iS, hiS, hzS0, hzS1, hzS2⟩ := Mp.info_parts Try.infoS
  have cF := ref_features A c l w hmax hR
  have cG := Lib.hid (fun (W : World) (f : Int) (hf : f ∈ feats l) (hb : Below w.heap.size w W) => ref_group A c l f W hmax (hR.below hb) hf)
  have hmem := setL_mem (feats l)
  have hasc := setL_asc (feats l)
  have hal := setL_len (feats l)
  rw [feats_len] at hal
  have hgS : ∀ f, gS l f = (setL (feats l)).filter fun x => dec (Conn (Ed l) f x) := fun f => rfl
  obtain ⟨all, hAL⟩ : ∃ a, setL (feats l) = a := ⟨_, rfl⟩
  rw [hAL] at cF hmem hasc hal
  simp only [hAL] at hgS
  have HAL := Lib.hid hAL
  have HGS := Lib.hid hgS
  clear hAL hgS hR
  go_enter Try.func45, Try.ntmps45
  go_wp2_with fail
  refine cF.mono ?_
  rintro e w1 ⟨va, rfl, ⟨Aa, ca, rfl, hca, hRa⟩, hb1, _⟩
  go_wp2_with fail
  go_loopw [3, 5] (fun v i wr => ∃ (k : Nat) (ls : List Sl3), k ≤ all.length ∧ i = .int .i64 k ∧ OwnA 23 1 encSl wr w1.heap.size (blk ls) v ls ∧ AllRd wr ls ∧ ls.map (fun s => s.2.2) = clTo (Ed l) all k ∧ ls.length ≤ k ∧ Below w1.heap.size w1 wr) (fun _ i _ => all.length - (intOf i).toNat)
  case atStart => exact ⟨0, [], by omega, rfl, OwnA.nil w1 _ _, fun s hs => by simp at hs, by simp [clTo], by simp, Below.refl _ _⟩
  case round =>
    obtain ⟨k, ls, hk, rfl, hown, hard, hls, hlen, hbw⟩ := hrel
    by_cases hlt : k < all.length
    · obtain ⟨b, off, rfl, hb, c0⟩ := RdI.get hRa hbw hlt
      have hfa : all[k]! ∈ all := by rw [getElem!_pos all k hlt]; exact List.getElem_mem hlt
      have hfF := (hmem _).1 hfa
      obtain ⟨h0, t0, hht, hiff⟩ := head_iff (E := Ed l) hasc hfa
      have hyes := Lib.hid (clTo_yes (E := Ed l) hlt)
      have hno := Lib.hid (clTo_no (E := Ed l) hlt)
      have hbs := hbw.size
      obtain ⟨f, hf⟩ : ∃ f, all[k]! = f := ⟨_, rfl⟩
      rw [hf] at c0 hfF hht hiff
      have HF := Lib.hid hf
      have HI := Lib.hid hiff
      have HHT := Lib.hid hht
      clear hf hiff hfa
      have cg := cG.out wr f hfF (hb1.trans (hbw.mono hb1.size))
      rw [HGS.out f, hht] at cg
      clear hht
      go_wp2_with fail
      refine cg.mono ?_
      rintro e w2 ⟨vg, rfl, hSg, hb2, hloc⟩
      obtain ⟨Ag, cg', rfl, hcg, hRg⟩ := hSg
      have hg2 := below_gr hb2
      have hown2 := hown.keptN hg2
      have hard2 := hard.none hg2
      have hbw2 := hbw.grown hg2 hbs (fun j hj => by cases hj)
      obtain ⟨bg, og, rfl, hbg, g0⟩ := RdI.get hRg (Below.refl _ _) (show 0 < (h0 :: t0).length by simp)
      have hbgn : wr.heap.size ≤ bg := by
        rcases hloc bg rfl with ⟨a, ha, _⟩ | h
        · cases ha
        · exact h
      have c1 := hg2.cell c0 (by simp)
      simp only [List.getElem!_cons_zero, Nat.add_zero] at g0
      have hs2 := hbw2.size
      have hgl : (h0 :: t0).length ≤ 1000 := by
        rw [← HHT.out]; exact Nat.le_trans (List.length_filter_le _ _) (by omega)
      by_cases he : h0 = f
      · have hE : (h0 == f) = true := by simp [he]
        have HE := Lib.hid he
        have hown1 := Lib.hid hown
        clear he hown cG
        go_wp2
        go_quiet (fail)
        have hgq : w2.grownBy (w2.drewN nq) none := below_gr (below_drewN (Below.refl _ _) nq)
        have hownq := hown2.keptN hgq
        have hardq := hard2.none hgq
        have hRgq := rdI_kept hRg hgq (fun a _ => by simp)
        have hbwq := hbw2.grown hgq hs2 (fun j hj => by cases hj)
        have hsq : w1.heap.size ≤ (w2.drewN nq).heap.size := hs2
        go_wp2_with (at_builtin; refine Mp.OwnA.append1 (enc := encSl) 37 iS (.slice none 0 0) 24 Try.underlying37 hiS hzS0 hzS1 hzS2 rfl (by decide) (by decide) encSl_len (some ⟨bg, og, none⟩, cg', h0 :: t0) (encSl_one _) rfl _ _ rfl hownq hardq.lt rfl rfl (by omega) hsq ?_; intro v3 w3 hown3 hg3 hloc3)
        have hne : ∀ j, u3.ownBlock = some j → j < wr.heap.size := fun j hj => (hown1.out.lt hj).2
        have hard3 : AllRd w3 (ls ++ [(some ⟨bg, og, none⟩, cg', h0 :: t0)]) := by
          intro s hs
          rcases List.mem_append.1 hs with hs | hs
          · exact hardq.kept hg3 (fun j hj => hown1.out.2 j hj) s hs
          · simp only [List.mem_singleton] at hs
            subst hs
            refine ⟨rdI_kept hRgq hg3 fun a ha e => ?_, fun a ha => ?_⟩
            · injection ha with ha
              subst ha
              have := hne bg e.symm
              omega
            · injection ha with ha
              subst ha
              exact Nat.lt_of_lt_of_le hbg hg3.size
        have hown4 : OwnA 23 1 encSl w3 w1.heap.size (blk (ls ++ [(some ⟨bg, og, none⟩, cg', h0 :: t0)])) v3 (ls ++ [(some ⟨bg, og, none⟩, cg', h0 :: t0)]) := by
          refine hown3.weak fun j hj hj' => ?_
          obtain ⟨s, hs, a, ha, haj⟩ := hj'
          rcases List.mem_append.1 hs with hs | hs
          · exact hown3.2 j hj ⟨s, hs, a, ha, haj⟩
          · simp only [List.mem_singleton] at hs
            subst hs
            injection ha with ha
            subst ha
            simp only at haj
            subst haj
            rcases hloc3 with h | ⟨n, h, hn⟩
            · rw [h] at hj
              have := hne _ hj
              omega
            · rw [h] at hj
              injection hj with hj
              have : w2.heap.size ≤ n := hn
              omega
        go_roundw
        case rel => exact ⟨k + 1, _, by omega, by go_num, hown4, hard3, by
          rw [hyes.out (by rw [HF.out]; exact HI.out.1 HE.out), HF.out, List.map_append, hls, HHT.out]
          rfl, by simp; omega, hbwq.grown hg3 hsq (fun j hj => (hown1.out.lt hj).1)⟩
        case measure => simp [intOf]; omega
      · have hE : (h0 == f) = false := by simp [he]
        have HE := Lib.hid he
        clear he hown cG
        go_wp2
        go_quiet (fail)
        have hgq : w2.grownBy (w2.drewN nq) none := below_gr (below_drewN (Below.refl _ _) nq)
        have hownq := hown2.keptN hgq
        have hardq := hard2.none hgq
        have hbwq := hbw2.grown hgq hs2 (fun j hj => by cases hj)
        go_wp2
        go_roundw
        case rel => exact ⟨k + 1, ls, by omega, by go_num, hownq, hardq, by rw [hno.out (by rw [HF.out]; exact fun h => HE.out (HI.out.2 h))]; exact hls, by omega, hbwq⟩
        case measure => simp [intOf]; omega
    · obtain rfl : k = all.length := by omega
      rw [clTo_all] at hls
      go_wp2
      go_ret
      refine ⟨_, rfl, ?_, hb1.trans (hbw.mono hb1.size)⟩
      rw [HAL.out, ← hls]
      exact grpS_of hown hard
end Go.Proofs
/- Valid, the program's and the reference's. -/
set_option linter.unusedVariables false
set_option linter.unusedSimpArgs false
namespace Go.Proofs
open Go.RowKit Go.Proofs.Mp Go.Proofs.Uf

/-- the value v is a slice that reads as the candidates l -/
def SlC (w : World) (v : Value) (l : List Cand) : Prop := ∃ A c, v = .slice A l.length c ∧ l.length ≤ c ∧ Rd 8 encC w A l
theorem SlC.below {w w' : World} {v : Value} {l : List Cand} (h : SlC w v l) (hb : Below w.heap.size w w') : SlC w' v l := by
  obtain ⟨A, c, rfl, h1, hR⟩ := h
  exact ⟨A, c, rfl, h1, hR.below hb⟩
theorem Try.size45 : (Try.prog.info? 45).map (·.size) = some 8 := by kernel_rfl
theorem Try.exec45 {o : Oper} {a : Act} {w : World} (q : Cand) (x : Operand) (ho : o.op = .load 45 x)
    (b off : Nat) (hx : a.eval x = .pointer (some ⟨b, off, none⟩)) (hc : w.rangeAt b off (encC q)) : (execOp a.eval o).run Try.prog w = .ok (.value (aggC q)) w := by
  rcases yieldsIf_load_mid (P := Try.prog) (ops := #[]) (S := fun W => W = w) (op := { o with guard := none }) (a := a) (by simp [Region.wanted]) 45 x ho b off hx (encC q) _ (fun W hW => hW ▸ hc) Try.underlying45 rfl Try.size45 with ⟨_, h⟩ | ⟨h, _⟩
  · have := h w rfl
    unfold execOp at this ⊢
    exact this
  · simp [Region.wanted] at h
theorem Rd.rangeC {w wr : World} {A : Option Addr} {xs : List Cand} (h : Rd 8 encC w A xs) (hb : Below w.heap.size w wr) {j : Nat} (hj : j < xs.length) :
    ∃ b off, A = some ⟨b, off, none⟩ ∧ b < w.heap.size ∧ wr.rangeAt b (off + j * 8) (encC xs[j]!) := by
  obtain ⟨b, off, rfl, hlt, hc⟩ := Mp.Rd.get h hb hj
  exact ⟨b, off, rfl, hlt, fun i v hv => hc j hj i v hv⟩
theorem Rd.rangeCs {w : World} {A : Option Addr} {xs : List Cand} (h : Rd 8 encC w A xs) (hn : 0 < xs.length) :
    ∃ b off, A = some ⟨b, off, none⟩ ∧ b < w.heap.size ∧ ∀ (wr : World), Below w.heap.size w wr → ∀ j, j < xs.length → wr.rangeAt b (off + j * 8) (encC xs[j]!) := by
  obtain ⟨b, off, rfl, hlt, _⟩ := h.at_ hn
  refine ⟨b, off, rfl, hlt, fun wr hb j hj => ?_⟩
  obtain ⟨b', off', e, _, h2⟩ := Rd.rangeC h hb hj
  injection e with e
  injection e with e1 e2
  subst e1 e2
  exact h2
theorem RdI.cells {w : World} {A : Option Addr} {xs : List Int} (h : RdI w A xs) (hn : 0 < xs.length) :
    ∃ b off, A = some ⟨b, off, none⟩ ∧ b < w.heap.size ∧ ∀ (wr : World), Below w.heap.size w wr → ∀ j, j < xs.length → wr.cell? ⟨b, off + j, none⟩ = some (.int .i64 xs[j]!) := by
  obtain ⟨b, off, rfl, hlt, _⟩ := h.at_ hn
  refine ⟨b, off, rfl, hlt, fun wr hb j hj => ?_⟩
  obtain ⟨b', off', e, _, h2⟩ := RdI.getAll h hb hj
  injection e with e
  injection e with e1 e2
  subst e1 e2
  exact h2 j hj

def inB (n : Nat) (i : Int) : Bool := decide (0 ≤ i) && decide (i < n)
theorem inB_iff {n : Nat} {i : Int} : inB n i = true ↔ 0 ≤ i ∧ i < n := by simp [inB]
theorem inB_no {n : Nat} {i : Int} : inB n i = false ↔ i < 0 ∨ (n : Int) ≤ i := by
  rw [← Bool.not_eq_true, inB_iff]; omega
def hitI (l : List Cand) (i j : Int) : Bool := hitB l[i.toNat]! l[j.toNat]!
def freeP (l : List Cand) (ch : List Int) : Prop := ∀ n, n < ch.length → ∀ m, m < n → hitI l ch[n]! ch[m]! = false
instance (l : List Cand) (ch : List Int) : Decidable (freeP l ch) := by unfold freeP; exact inferInstance
def validB (l : List Cand) (ch : List Int) : Bool := ascB ch && ch.all (inB l.length) && decide (freeP l ch)
theorem validB_asc {l : List Cand} {ch : List Int} (h : ascB ch = false) : validB l ch = false := by unfold validB; rw [h]; rfl
theorem validB_in {l : List Cand} {ch : List Int} {k : Nat} (hk : k < ch.length) (h : inB l.length ch[k]! = false) : validB l ch = false := by
  unfold validB
  rw [show ch.all (inB l.length) = false from ?_, Bool.and_false, Bool.false_and]
  rw [List.all_eq_false]
  rw [getElem!_pos ch k hk] at h
  exact ⟨ch[k], List.getElem_mem hk, by simp [h]⟩
theorem validB_hit {l : List Cand} {ch : List Int} {n m : Nat} (hn : n < ch.length) (hm : m < n) (h : hitI l ch[n]! ch[m]! = true) : validB l ch = false := by
  unfold validB
  rw [decide_eq_false (fun hf : freeP l ch => by rw [hf n hn m hm] at h; cases h), Bool.and_false]
theorem validB_yes {l : List Cand} {ch : List Int} (h1 : ascB ch = true) (h2 : ∀ j, j < ch.length → inB l.length ch[j]! = true) (h3 : freeP l ch) : validB l ch = true := by
  unfold validB
  rw [h1, decide_eq_true h3, show ch.all (inB l.length) = true from ?_]
  · rfl
  · rw [List.all_eq_true]
    intro x hx
    obtain ⟨j, hj, rfl⟩ := List.mem_iff_getElem.1 hx
    have := h2 j hj
    rwa [getElem!_pos ch j hj] at this
theorem inB_nat {n : Nat} {i : Int} (h : inB n i = true) : ∃ m : Nat, i = (m : Int) ∧ m < n := by
  obtain ⟨h1, h2⟩ := inB_iff.1 h
  exact ⟨i.toNat, by omega, by omega⟩
set_option maxRecDepth 100000 in
set_option maxHeartbeats 4000000 in
theorem place_valid (u v : Value) (l : List Cand) (ch : List Int) (w : World) (hl : l.length ≤ 1000) (hc : ch.length ≤ 1000) (hu : SlC w u l) (hv : SlI w v ch) :
    Calls Try.prog 13 #[u, v] w (RetV w (.bool (validB l ch))) := by
  obtain ⟨p, hp⟩ : ∃ p, ascB ch = p := ⟨_, rfl⟩
  have cV := fun (W : World) (hb : Below w.heap.size w W) => k_valid (hv.below hb) (by omega) hp
  have HASC := Lib.hid hp
  obtain ⟨A, ca, rfl, hca, hR⟩ := hu
  obtain ⟨B, cb, rfl, hcb, hRc⟩ := hv
  have HR := Lib.hid hR
  have HRC := Lib.hid hRc
  have CV := Lib.hid cV
  clear hp hR hRc cV
  go_enter Try.func13, Try.ntmps13
  go_wp2_with fail
  refine (CV.out _ (Below.refl _ _)).mono ?_
  rintro e w1 ⟨rfl, hb1⟩
  cases p
  · go_wp2
    go_ret
    exact RetV.bool (validB_asc HASC.out).symm hb1
  go_wp2_with fail
  go_loopw [16] (fun i wr => ∃ k : Nat, k ≤ ch.length ∧ i = .int .i64 k ∧ Hid (∀ j, j < k → inB l.length ch[j]! = true) ∧ Below w.heap.size w wr) (fun i _ => ch.length - (intOf i).toNat)
  case atStart => exact ⟨0, Nat.zero_le _, rfl, Lib.hid (fun j hj => by omega), hb1⟩
  case round =>
    obtain ⟨k, hk, rfl, hin, hbw⟩ := hrel
    clear hb1
    by_cases hlt : k < ch.length
    · obtain ⟨b, off, rfl, hb, g1⟩ := RdI.get HRC.out hbw hlt
      obtain ⟨y, hy⟩ : ∃ y, ch[k]! = y := ⟨_, rfl⟩
      rw [hy] at g1
      have HY := Lib.hid hy
      have hd : decide (k < ch.length) = true := decide_eq_true hlt
      clear hy
      by_cases h0 : y < 0
      · have d0 : decide (y < 0) = true := decide_eq_true h0
        have HB : Hid (inB l.length y = false) := Lib.hid (inB_no.2 (.inl h0))
        clear h0
        go_wp2
        go_ret
        exact RetV.bool (validB_in hlt (by rw [HY.out]; exact HB.out)).symm hbw
      · by_cases h1 : (l.length : Int) ≤ y
        · have d0 : decide (y < 0) = false := decide_eq_false h0
          have d1 : decide ((l.length : Int) ≤ y) = true := decide_eq_true h1
          have HB : Hid (inB l.length y = false) := Lib.hid (inB_no.2 (.inr h1))
          clear h0 h1
          go_wp2
          go_ret
          exact RetV.bool (validB_in hlt (by rw [HY.out]; exact HB.out)).symm hbw
        · have d0 : decide (y < 0) = false := decide_eq_false h0
          have d1 : decide ((l.length : Int) ≤ y) = false := decide_eq_false h1
          have HB : Hid (inB l.length y = true) := Lib.hid (inB_iff.2 ⟨by omega, by omega⟩)
          clear h0 h1
          go_wp2
          go_roundw
          case rel => exact ⟨k + 1, by omega, by go_num, Lib.hid (fun j hj => by
            rcases Nat.lt_succ_iff_lt_or_eq.1 hj with h2 | rfl
            · exact hin.out j h2
            · rw [HY.out]; exact HB.out), hbw⟩
          case measure => simp [intOf]; omega
    · obtain rfl : k = ch.length := by omega
      have hd : decide (ch.length < ch.length) = false := decide_eq_false (by omega)
      go_wp2_with fail
      generalize wr = wa at *
      have hS0 := hbw.size
      go_loopw [31] (fun i wr => ∃ k : Nat, k ≤ ch.length ∧ i = .int .i64 k ∧ Hid (∀ n, n < k → ∀ m, m < n → hitI l ch[n]! ch[m]! = false) ∧ Below w.heap.size w wr) (fun i _ => ch.length - (intOf i).toNat)
      case atStart => exact ⟨0, Nat.zero_le _, rfl, Lib.hid (fun n hn => by omega), hbw⟩
      case round =>
        obtain ⟨k, hk, rfl, hno, hbx⟩ := hrel
        clear hbw hS0
        by_cases hlt : k < ch.length
        · obtain ⟨b, off, rfl, hb, HC⟩ := RdI.cells HRC.out (show 0 < ch.length by omega)
          have g1 := HC wr hbx k hlt
          have HC1 := Lib.hid HC
          obtain ⟨n1, hn1, hn1l⟩ := inB_nat (hin.out k hlt)
          rw [hn1] at g1
          have HN1 := Lib.hid hn1
          have hd : decide (k < ch.length) = true := decide_eq_true hlt
          have hcb0 : ¬ cb = 0 := by omega
          clear hn1 HC
          go_wp2_with fail
          clear g1
          generalize wr = wb at *
          have hS2 := hbx.size
          go_loopw [40] (fun i wr => ∃ m : Nat, m ≤ k ∧ i = .int .i64 m ∧ Hid (∀ j, j < m → hitI l ch[k]! ch[j]! = false) ∧ Below wb.heap.size wb wr) (fun i _ => k - (intOf i).toNat)
          case atStart => exact ⟨0, Nat.zero_le _, rfl, Lib.hid (fun n hn => by omega), Below.refl _ _⟩
          case round =>
            obtain ⟨m, hm, rfl, hno2, hbi⟩ := hrel
            have kk := hbx.trans (hbi.mono hbx.size)
            by_cases hlm : m < k
            · obtain ⟨n2, hn2, hn2l⟩ := inB_nat (hin.out m (by omega))
              have g2 := HC1.out wr kk m (by omega)
              rw [hn2] at g2
              have HHI : Hid (hitI l ch[k]! ch[m]! = hitB l[n1]! l[n2]!) := Lib.hid (by unfold hitI; rw [HN1.out, hn2]; simp)
              obtain ⟨bl, offl, rfl, hbl, HCL⟩ := Rd.rangeCs HR.out (show 0 < l.length by omega)
              have HX := Lib.hid (fun (W : World) (hW : Below wr.heap.size wr W) => HCL W (kk.trans (hW.mono kk.size)) n1 hn1l)
              have HY := Lib.hid (fun (W : World) (hW : Below wr.heap.size wr W) => HCL W (kk.trans (hW.mono kk.size)) n2 hn2l)
              obtain ⟨x, hx⟩ : ∃ x, l[n1]! = x := ⟨_, rfl⟩
              obtain ⟨y, hy⟩ : ∃ y, l[n2]! = y := ⟨_, rfl⟩
              rw [hx] at HX HHI
              rw [hy] at HY HHI
              have hd2 : decide (m < k) = true := decide_eq_true hlm
              clear hn2 HCL hx hy
              have hS1 : (fun W : World => Below wr.heap.size wr W) wr.drew := (Below.refl _ _).drew
              go_wp2_with fail
              clear g2
              refine wp_region_held_drew (S := fun W : World => Below wr.heap.size wr W) (by kernel_rfl) hS1 (fun hHeld => ?_)
              clear hHeld
              generalize wr.drew = wzra at *
              refine wpAnyH_take (i := 0) (oi := ⟨some 44, _, _, _, _, _⟩) (v := ?vra1) rfl (by kernel_rfl) (by kernel_rfl) (by kernel_rfl) (fun _ _ _ h => h) (Or.inl ⟨by kernel_rfl, ?hyra1⟩) (by assumption) ?restra1
              case hyra1 => (intro W hSw; (try dsimp only at hSw); go_simp; try with_reducible rfl)
              case' restra1 => try simp only [Act.put, List.setIfInBounds_toArray, List.set_cons_zero, List.set_cons_succ]
              refine wpAnyH_take (i := 1) (oi := ⟨some 45, _, _, _, _, _⟩) (v := ?vra2) rfl (by kernel_rfl) (by kernel_rfl) (by kernel_rfl) (fun _ _ _ h => h) (Or.inl ⟨by kernel_rfl, ?hyra2⟩) (by assumption) ?restra2
              case hyra2 => (intro W hSw; (try dsimp only at hSw); go_simp; try with_reducible rfl)
              case' restra2 => try simp only [Act.put, List.setIfInBounds_toArray, List.set_cons_zero, List.set_cons_succ]
              refine wpAnyH_take (i := 2) (oi := ⟨some 46, _, _, _, _, _⟩) (v := ?vra3) rfl (by kernel_rfl) (by kernel_rfl) (by kernel_rfl) (fun _ _ _ h => h) (Or.inl ⟨by kernel_rfl, ?hyra3⟩) (by assumption) ?restra3
              case hyra3 => (intro W hSw; (try dsimp only at hSw); go_simp; try with_reducible rfl)
              case' restra3 => try simp only [Act.put, List.setIfInBounds_toArray, List.set_cons_zero, List.set_cons_succ]
              refine wpAnyH_take (i := 3) (oi := ⟨some 47, _, _, _, _, _⟩) (v := ?vra4) rfl (by kernel_rfl) (by kernel_rfl) (by kernel_rfl) (fun _ _ _ h => h) (Or.inl ⟨by kernel_rfl, ?hyra4⟩) (by assumption) ?restra4
              case hyra4 => (intro W hSw; refine Try.exec45 x (.tmp 46) ?_ bl (offl + n1 * 8) ?_ (HX.out W hSw) <;> rfl)
              case' restra4 => try simp only [Act.put, List.setIfInBounds_toArray, List.set_cons_zero, List.set_cons_succ]
              refine wpAnyH_take (i := 4) (oi := ⟨some 48, _, _, _, _, _⟩) (v := ?vra5) rfl (by kernel_rfl) (by kernel_rfl) (by kernel_rfl) (fun _ _ _ h => h) (Or.inl ⟨by kernel_rfl, ?hyra5⟩) (by assumption) ?restra5
              case hyra5 => (intro W hSw; (try dsimp only at hSw); go_simp; try with_reducible rfl)
              case' restra5 => try simp only [Act.put, List.setIfInBounds_toArray, List.set_cons_zero, List.set_cons_succ]
              refine wpAnyH_take (i := 5) (oi := ⟨some 49, _, _, _, _, _⟩) (v := ?vra6) rfl (by kernel_rfl) (by kernel_rfl) (by kernel_rfl) (fun _ _ _ h => h) (Or.inl ⟨by kernel_rfl, ?hyra6⟩) (by assumption) ?restra6
              case hyra6 => (intro W hSw; (try dsimp only at hSw); go_simp; try with_reducible rfl)
              case' restra6 => try simp only [Act.put, List.setIfInBounds_toArray, List.set_cons_zero, List.set_cons_succ]
              refine wpAnyH_take (i := 6) (oi := ⟨some 50, _, _, _, _, _⟩) (v := ?vra7) rfl (by kernel_rfl) (by kernel_rfl) (by kernel_rfl) (fun _ _ _ h => h) (Or.inl ⟨by kernel_rfl, ?hyra7⟩) (by assumption) ?restra7
              case hyra7 => (intro W hSw; (try dsimp only at hSw); go_simp; try with_reducible rfl)
              case' restra7 => try simp only [Act.put, List.setIfInBounds_toArray, List.set_cons_zero, List.set_cons_succ]
              refine wpAnyH_take (i := 7) (oi := ⟨some 51, _, _, _, _, _⟩) (v := ?vra8) rfl (by kernel_rfl) (by kernel_rfl) (by kernel_rfl) (fun _ _ _ h => h) (Or.inl ⟨by kernel_rfl, ?hyra8⟩) (by assumption) ?restra8
              case hyra8 => (intro W hSw; refine Try.exec45 y (.tmp 50) ?_ bl (offl + n2 * 8) ?_ (HY.out W hSw) <;> rfl)
              case' restra8 => try simp only [Act.put, List.setIfInBounds_toArray, List.set_cons_zero, List.set_cons_succ]
              refine wpAnyH_ready (rs := [8]) (by kernel_rfl) (by simp) ?_
              refine AllReadyH.cons (o := ⟨some 52, _, _, _, _, _⟩) rfl (fun K hK => ?_) AllReadyH.nil
              go_simp
              go_at_call 28
              refine (ov_hit x y wzra).mono ?_
              rintro e Wra1 ⟨rfl, hbWra1⟩
              have hSWra1 := hS1.trans (hbWra1.mono hS1.size)
              try clear hS1
              clear hbWra1
              go_wp2_with fail
              refine hK.out _ _ hSWra1 (fun hHeld => ?_)
              clear hK hHeld K
              try simp only [Act.put, List.setIfInBounds_toArray, List.set_cons_zero, List.set_cons_succ]
              refine wpAnyH_done (by kernel_rfl) ?_ _
              obtain ⟨p, hp⟩ : ∃ p, hitB x y = p := ⟨_, rfl⟩
              rw [hp]
              have HPH := Lib.hid hp
              clear hp
              cases p
              · go_wp2
                go_roundw
                case rel => exact ⟨m + 1, by omega, by go_num, Lib.hid (fun j hj => by
                  rcases Nat.lt_succ_iff_lt_or_eq.1 hj with h2 | rfl
                  · exact hno2.out j h2
                  · rw [HHI.out]; exact HPH.out), hbi.trans (hSWra1.mono hbi.size)⟩
                case measure => simp [intOf]; omega
              · go_wp2
                go_ret
                exact RetV.bool (validB_hit hlt hlm (by rw [HHI.out]; exact HPH.out)).symm (kk.trans (hSWra1.mono kk.size))
            · obtain rfl : m = k := by omega
              have hd2 : decide (m < m) = false := decide_eq_false (by omega)
              go_wp2
              go_roundw
              case rel => exact ⟨m + 1, by omega, by go_num, Lib.hid (fun n hn j hj => by
                rcases Nat.lt_succ_iff_lt_or_eq.1 hn with h2 | rfl
                · exact hno.out n h2 j hj
                · exact hno2.out j hj), kk⟩
              case measure => simp [intOf]; omega
        · obtain rfl : k = ch.length := by omega
          have hd : decide (ch.length < ch.length) = false := decide_eq_false (by omega)
          go_wp2
          go_ret
          exact RetV.bool (validB_yes HASC.out hin.out hno.out).symm hbx
end Go.Proofs
