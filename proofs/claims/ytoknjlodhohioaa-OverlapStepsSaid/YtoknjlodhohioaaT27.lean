import Derived.Test.YtoknjlodhohioaaT26
set_option linter.unusedVariables false
set_option linter.unusedSimpArgs false
namespace Go.Proofs
open Go.RowKit Go.Proofs.Mp Go.Proofs.Uf Go.Shelf Go.Lib

/-- a box's four cells (of a Cand the box alone counts) -/
def encB (c : Cand) : List Value := [.int .i64 c.x0, .int .i64 c.y0, .int .i64 c.x1, .int .i64 c.y1]
theorem encB_len (c : Cand) : (encB c).length = 4 := rfl

theorem Try.pred31 (x : Cand) (B : Nat) (w : World) (hB : B < w.heap.size) (hA : CandAt w B x) :
    PredBelow Try.prog 31 #[.pointer (some ⟨B, 0, none⟩)] (fun r => .agg (encB r).toArray) (fun r => overB x r) w := fun W r hb => by
  obtain ⟨c0, c1, c2, c3, c4, c5, c6, c7⟩ := hA.kept (below_gr hb) (by simp)
  have hBW : B < W.heap.size := Nat.lt_of_lt_of_le hB hb.size
  have hne : B ≠ W.heap.size := by omega
  have cG := fun W' => geom_overlap x r W'
  unfold aggB at cG
  obtain ⟨v, hv⟩ : ∃ v, overB x r = v := ⟨_, rfl⟩
  simp only [hv] at cG
  have HV := Lib.hid hv
  clear hv
  obtain ⟨rf, r0, r1, r2, r3, rx, ry, rc⟩ := r
  dsimp only at cG
  have CG := Lib.hid cG
  clear cG hA
  show Calls Try.prog 31 #[.agg #[.int .i64 r0, .int .i64 r1, .int .i64 r2, .int .i64 r3], .pointer (some ⟨B, 0, none⟩)] W _
  go_enter Try.func31, Try.ntmps31
  go_wp2_with fail
  refine (CG.out _).mono ?_
  rintro e w1 ⟨rfl, hb1⟩
  have hba : Below W.heap.size W (W.alloc (.cells #[.int .i64 r0, .int .i64 r1, .int .i64 r2, .int .i64 r3] 23)) := (Below.refl _ _).alloc (Nat.le_refl _) _
  go_wp2
  go_ret
  exact ⟨by rw [HV.out]; rfl, hb.trans ((hba.trans (hb1.mono hba.size)).mono hb.size)⟩

theorem index_none (A : Option Addr) (c : Nat) (f : Value) (w : World) : Calls Try.prog 36 #[.slice A 0 c, f] w (RetV w (.int .i64 (-1))) := by
  go_enter Try.func36, Try.ntmps36
  go_wp2
  refine wp_loop_rounds 1 ?_
  rw [rounds_succ]
  go_wp2
  go_ret
  exact RetV.int rfl (Below.refl _ _)
theorem contains_none (A : Option Addr) (c : Nat) (f : Value) (w : World) : Calls Try.prog 32 #[.slice A 0 c, f] w (RetV w (.bool false)) := by
  go_enter Try.func32, Try.ntmps32
  go_wp2_with (go_at_call 36; refine (index_none _ _ _ _).mono ?_; rintro e w1 ⟨rfl, hb1⟩)
  go_ret
  exact RetV.bool rfl hb1

theorem hits_any (A : Option Addr) (c B : Nat) (x : Cand) (bs : List Cand) (w : World) (hmax : bs.length ≤ 1000000) (hR : Rd 4 encB w A bs) (hA : CandAt w B x) :
    Calls Try.prog 32 #[.slice A bs.length c, .func (.func 31) #[] #[.pointer (some ⟨B, 0, none⟩)]] w (RetV w (.bool (bs.any fun b => overB x b))) := by
  rcases hR with rfl | ⟨b, off, rfl, hb, hc⟩
  · exact contains_none A c _ _
  · have eg : ∀ args w, (callFunc 31 args).run Try.prog w = .ok (.enter 31 args) w := enters_of Try.func31 (by kernel_rfl) rfl
    have h := AnyQ.slices_ContainsFunc Try.laysCont 4 Try.isAgg23 Try.sizeOf23 encB encB_len (fun r => overB x r) 31 #[.pointer (some ⟨B, 0, none⟩)] eg b off bs.length c bs w
      (Try.pred31 x B w hA.lt hA) (Nat.le_refl _) (by omega) hb (fun j hj i v hv => hc j hj i v hv)
    change Calls Try.prog 32 _ _ _ at h
    rw [List.take_length] at h
    exact h
end Go.Proofs
