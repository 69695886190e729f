import Derived.Test.YtoknjlodhohioaaT27
set_option linter.unusedVariables false
set_option linter.unusedSimpArgs false
namespace Go.Proofs
open Go.RowKit Go.Proofs.Mp Go.Proofs.Uf

def freeB (bs : List Cand) (x : Cand) : Bool := !(bs.any fun b => overB x b)
def freeS (l bs : List Cand) : List Cand := l.filter (freeB bs)
theorem freeS_take {l bs : List Cand} {k : Nat} (h : k < l.length) : freeS (l.take (k + 1)) bs = freeS (l.take k) bs ++ (if freeB bs l[k]! then [l[k]!] else []) := by
  unfold freeS
  rw [List.take_succ_eq_append_getElem h, List.filter_append]
  congr 1
  simp [h, List.filter_cons]
theorem freeS_len (l bs : List Cand) (k : Nat) : (freeS (l.take k) bs).length ≤ l.length := Nat.le_trans (List.length_filter_le _ _) (by simp; omega)
theorem Try.infoC : (Try.prog.info? 27).map (fun i => (i.zero, i.size, i.bytes)) = some (some (.agg #[.int .i64 0, .int .i64 0, .int .i64 0, .int .i64 0, .int .i64 0, .int .i64 0, .int .i64 0, .int .i64 0]), 8, 64) := by kernel_rfl
theorem encC_one (x : Cand) : ∀ u ∈ encC x, u.oneCell' = true := by
  intro u hu
  simp only [encC, List.mem_cons, List.not_mem_nil, or_false] at hu
  rcases hu with rfl | rfl | rfl | rfl | rfl | rfl | rfl | rfl <;> rfl

/-- what a call leaves that returns a list of candidates -/
def SlC (w : World) (v : Value) (xs : List Cand) : Prop := ∃ A c, v = .slice A xs.length c ∧ xs.length ≤ c ∧ Rd 8 encC w A xs
theorem slC_of {w : World} {base : Nat} {v : Value} {xs : List Cand} (h : Own 27 8 encC w base v xs) : SlC w v xs := by
  obtain ⟨A, c, rfl⟩ := Own.slice h
  refine ⟨A, c, rfl, ?_, Own.rd encC_len h⟩
  rcases h.2 with ⟨he, h0⟩ | ⟨g, cap, cur, he, _, _, hnc, _⟩
  · omega
  · injection he with _ _ he
    omega

set_option maxHeartbeats 4000000 in
theorem ov_free (A B : Option Addr) (c d : Nat) (l bs : List Cand) (w : World) (h1 : l.length ≤ 1000000) (h2 : bs.length ≤ 1000000) (hR : Rd 8 encC w A l) (hB : Rd 4 encB w B bs) :
    Calls Try.prog 22 #[.slice A l.length c, .slice B bs.length d] w (fun e w' => ∃ v, e = .returned v ∧ SlC w' v (freeS l bs) ∧ Below w.heap.size w w') := by
  obtain ⟨i0, hi, hz0, hz1, hz2⟩ := Mp.info_parts Try.infoC
  have HC := Lib.hid (fun (W : World) (xb : Nat) (x : Cand) (hb : Below w.heap.size w W) (hA : CandAt W xb x) => hits_any B d xb x bs W h2 (hB.below hb) hA)
  go_enter Try.func22, Try.ntmps22
  go_wp2_with fail
  go_loopw [4, 10] (fun v i wr => ∃ k : Nat, k ≤ l.length ∧ i = .int .i64 k ∧ OwnA 27 8 encC wr w.heap.size (fun _ => False) v (freeS (l.take k) bs) ∧ Below w.heap.size w wr) (fun _ i _ => l.length - (intOf i).toNat)
  case atStart => exact ⟨0, by omega, rfl, OwnA.nil w _ _, Below.refl _ _⟩
  case round =>
    obtain ⟨k, hk, rfl, hown, hbw⟩ := hrel
    by_cases hlt : k < l.length
    · obtain ⟨b, off, rfl, hb, c0, c1, c2, c3, c4, c5, c6, c7⟩ := RdC.get hR hbw hlt
      have HT := Lib.hid (freeS_take (bs := bs) hlt)
      have hlen := freeS_len l bs k
      obtain ⟨x, hx⟩ : ∃ x, l[k]! = x := ⟨_, rfl⟩
      have HX := Lib.hid hx
      rw [hx] at c0 c1 c2 c3 c4 c5 c6 c7
      clear hx
      have hA0 := CandAt.new wr x
      have hgr0 := World.grownBy_alloc wr (candObj x) none
      have hbw0 := hbw.grown hgr0 hbw.size (fun j hj => by cases hj)
      have cH := HC.out _ wr.heap.size x hbw0 hA0
      have hown0 := hown.keptN hgr0
      have hbs := hbw0.size
      obtain ⟨hv, hhv⟩ : ∃ hv, (bs.any fun b => overB x b) = hv := ⟨_, rfl⟩
      rw [hhv] at cH
      have HV := Lib.hid hhv
      clear hhv
      have hxl : wr.heap.size < (wr.alloc (candObj x)).heap.size := by simp
      have hwl : ∀ j, u4.ownBlock = some j → j < wr.heap.size := fun j hj => (hown.lt hj).2
      clear hown
      rcases hv with _ | _
      · go_wp2_with fail
        refine cH.mono ?_
        rintro e w1 ⟨rfl, hb1⟩
        have hg1 := below_gr hb1
        have hown1 := hown0.keptN hg1
        have hbw1 := hbw0.grown hg1 hbs (fun j hj => by cases hj)
        obtain ⟨a0, a1, a2, a3, a4, a5, a6, a7⟩ := hA0.kept hg1 (by simp)
        have hs1 := hbw1.size
        have hownb := fun j hj => (hown1.lt (j := j) hj).1
        go_wp2_with (at_builtin; refine Mp.OwnA.append1 (enc := encC) 30 i0 (.agg #[.int .i64 0, .int .i64 0, .int .i64 0, .int .i64 0, .int .i64 0, .int .i64 0, .int .i64 0, .int .i64 0]) 64 Try.underlying30 hi hz0 hz1 hz2 rfl (by decide) (by decide) encC_len x (encC_one _) rfl _ _ rfl hown1 (fun j hj => hj.elim) rfl rfl (by omega) hs1 ?_; clear hown1; intro v2 w2 hown2 hg2 hloc2)
        go_roundw
        case rel => exact ⟨k + 1, by omega, by go_num, by rw [HT.out, HX.out, if_pos (by unfold freeB; rw [HV.out]; rfl)]; exact hown2, hbw1.grown hg2 hs1 hownb⟩
        case measure => simp [intOf]; omega
      · go_wp2_with fail
        refine cH.mono ?_
        rintro e w1 ⟨rfl, hb1⟩
        have hg1 := below_gr hb1
        have hown1 := hown0.keptN hg1
        have hbw1 := hbw0.grown hg1 hbs (fun j hj => by cases hj)
        go_wp2
        go_roundw
        case rel => exact ⟨k + 1, by omega, by go_num, by rw [HT.out, HX.out, if_neg (by unfold freeB; rw [HV.out]; simp), List.append_nil]; exact hown1, hbw1⟩
        case measure => simp [intOf]; omega
    · obtain rfl : k = l.length := by omega
      rw [List.take_length] at hown
      go_wp2
      go_ret
      exact ⟨_, rfl, slC_of hown.1, hbw⟩
end Go.Proofs
