import Derived.Test.YtoknjlodhohioaaT22
set_option linter.unusedVariables false
set_option linter.unusedSimpArgs false
namespace Go.Proofs
open Go.RowKit Go.Proofs.Mp Go.Proofs.Uf

theorem RetRl.mono {w w1 w' : World} {xs : List Int} {e : Ending} (h : RetRl w1 none xs e w') (hb : Below w.heap.size w w1) : RetRl w none xs e w' := by
  obtain ⟨v, h1, h2, h3, h4⟩ := h
  refine ⟨v, h1, h2, hb.trans (h3.mono hb.size), fun j hj => ?_⟩
  rcases h4 j hj with ⟨a, ha, _⟩ | h
  · cases ha
  · exact .inr (Nat.le_trans hb.size h)

set_option maxHeartbeats 1000000 in
theorem ref_features (A : Option Addr) (c : Nat) (l : List Cand) (w : World) (hmax : l.length ≤ 1000) (hR : Rd 8 encC w A l) :
    Calls Try.prog 20 #[.slice A l.length c] w (RetRl w none (setL (feats l))) := by
  go_enter Try.func20, Try.ntmps20
  go_wp2_with fail
  go_loopw [3, 4] (fun v i wr => ∃ k : Nat, k ≤ l.length ∧ i = .int .i64 k ∧ OwnI 3 wr w.heap.size v (feats (l.take k)) ∧ Below w.heap.size w wr) (fun _ i _ => l.length - (intOf i).toNat)
  case atStart => exact ⟨0, by omega, rfl, Own.nil _ _, Below.refl _ _⟩
  case round =>
    obtain ⟨k, hk, rfl, hown, hbw⟩ := hrel
    by_cases hlt : k < l.length
    · obtain ⟨b, off, rfl, hb, c0, _, _, _, _, _, _, _⟩ := RdC.get hR hbw hlt
      have HX := Lib.hid (feats_take hlt)
      have hlen := feats_take_len l k
      have hbs := hbw.size
      generalize l[k]! = x at *
      generalize feats (l.take k) = fs at *
      go_wp2_with (at_builtin; refine Try.appI hown x.f rfl _ _ rfl rfl rfl (by omega) hbs ?_; clear hown; intro v1 w1 hown1 hb1)
      go_roundw
      case rel => exact ⟨k + 1, by omega, by go_num, by rw [HX.out]; exact hown1, hbw.trans hb1⟩
      case measure => simp [intOf]; omega
    · obtain rfl : k = l.length := by omega
      rw [List.take_length] at hown
      have cN := k_rnormal_l (Mp.Own.sl hown) (by rw [feats_len]; omega)
      go_wp2_with fail
      refine cN.mono ?_
      intro e w1 h
      obtain ⟨v, rfl, h2, h3, h4⟩ := h.mono hbw
      go_wp2
      go_ret
      exact ⟨v, rfl, h2, h3, h4⟩

/-- how many candidates' features are not yet among out -/
def remL (l : List Cand) (out : List Int) : Nat := (l.filter fun x => !decide (x.f ∈ out)).length
theorem remL_add {l : List Cand} {out : List Int} {y : Cand} (hy : y ∈ l) (hn : y.f ∉ out) : remL l (out ++ [y.f]) + 1 ≤ remL l out := by
  unfold remL
  induction l with
  | nil => simp at hy
  | cons z zs ih =>
    rcases List.mem_cons.1 hy with rfl | hy'
    · have e1 : (!decide (y.f ∈ out ++ [y.f])) = false := by simp
      have e2 : (!decide (y.f ∈ out)) = true := by simp [hn]
      rw [List.filter_cons, List.filter_cons, e1, e2]
      simp only [Bool.false_eq_true, if_false, if_true, List.length_cons]
      have : (zs.filter fun x => !decide (x.f ∈ out ++ [y.f])).length ≤ (zs.filter fun x => !decide (x.f ∈ out)).length := by
        clear ih hy
        induction zs with
        | nil => simp
        | cons u us ih =>
          by_cases h : u.f ∈ out
          · simp [List.filter_cons, h]; simpa using ih
          · by_cases h2 : u.f = y.f
            · simp [List.filter_cons, h, h2, hn]; have := ih; simp at this; omega
            · simp [List.filter_cons, h, h2]; simpa using ih
      omega
    · have := ih hy'
      rw [List.filter_cons, List.filter_cons]
      by_cases h1 : z.f ∈ out
      · simp [h1]; simpa using this
      · by_cases h2 : z.f = y.f
        · simp [h1, h2, hn]; simp at this; omega
        · simp [h1, h2]; simpa using this

/-- the pairs of candidates before place i, m are closed under out -/
def closedTo (l : List Cand) (out : List Int) (i m : Nat) : Prop := ∀ i' m', (i' < i ∨ (i' = i ∧ m' < m)) → i' < l.length → m' < l.length → hitB l[i']! l[m']! = true → l[i']!.f ∈ out → l[m']!.f ∈ out
/-- what stands while a group is gathered -/
structure GI (l : List Cand) (f : Int) (n0 : Nat) (g : Bool) (i m : Nat) (out : List Int) : Prop where
  start : f ∈ out
  conn : ∀ z ∈ out, Conn (Ed l) f z
  bound : out.length + remL l out ≤ l.length + 1
  grow : n0 + (if g then 1 else 0) ≤ out.length
  closed : g = true ∨ closedTo l out i m

theorem GI.skip {l : List Cand} {f : Int} {n0 : Nat} {g : Bool} {i m : Nat} {out : List Int} (h : GI l f n0 g i m out) (hn : hitB l[i]! l[m]! = true → l[i]!.f ∈ out → l[m]!.f ∈ out) : GI l f n0 g i (m + 1) out := by
  refine ⟨h.start, h.conn, h.bound, h.grow, h.closed.imp id fun hc i' m' hlt h1 h2 h3 h4 => ?_⟩
  by_cases e : i' = i ∧ m' = m
  · obtain ⟨rfl, rfl⟩ := e; exact hn h3 h4
  · exact hc i' m' (by omega) h1 h2 h3 h4
theorem GI.add {l : List Cand} {f : Int} {n0 : Nat} {g : Bool} {i m : Nat} {out : List Int} (h : GI l f n0 g i m out) (hi : i < l.length) (hm : m < l.length) (h1 : hitB l[i]! l[m]! = true) (h2 : l[i]!.f ∈ out) (h3 : l[m]!.f ∉ out) :
    GI l f n0 true i (m + 1) (out ++ [l[m]!.f]) := by
  have hr := remL_add (l := l) (y := l[m]!) (by rw [getElem!_pos l m hm]; exact List.getElem_mem hm) h3
  have hb := h.bound
  refine ⟨by simp [h.start], fun z hz => ?_, by simp only [List.length_append, List.length_singleton]; omega, ?_, .inl rfl⟩
  · rcases List.mem_append.1 hz with hz | hz
    · exact h.conn z hz
    · simp only [List.mem_singleton] at hz
      subst hz
      exact (h.conn _ h2).trans (.edge ⟨i, m, hi, hm, h1, rfl, rfl⟩ (.refl _))
  · have := h.grow
    simp only [List.length_append, List.length_singleton, if_true]
    split at this <;> omega
theorem GI.row {l : List Cand} {f : Int} {n0 : Nat} {g : Bool} {i : Nat} {out : List Int} (h : GI l f n0 g i l.length out) : GI l f n0 g (i + 1) 0 out :=
  ⟨h.start, h.conn, h.bound, h.grow, h.closed.imp id fun hc i' m' hlt h1 h2 h3 h4 => hc i' m' (by omega) h1 h2 h3 h4⟩
theorem GI.done {l : List Cand} {f : Int} {n0 : Nat} {out : List Int} (h : GI l f n0 false l.length 0 out) (x : Int) : x ∈ out ↔ Conn (Ed l) f x := by
  constructor
  · exact h.conn x
  · have hcl := h.closed.resolve_left (by simp)
    have key : ∀ a b, Ed l a b → a ∈ out → b ∈ out := by
      rintro a b ⟨i, m, h1, h2, h3, rfl, rfl⟩ ha
      exact hcl i m (.inl h1) h1 h2 h3 ha
    have key2 : ∀ a b, Conn (Ed l) a b → a ∈ out → b ∈ out := by
      intro a b hc
      induction hc with
      | refl _ => exact id
      | edge e _ ih => exact fun ha => ih (key _ _ e ha)
      | back e _ ih =>
        obtain ⟨i, m, h1, h2, h3, e1, e2⟩ := e
        exact fun ha => ih (key _ _ ⟨m, i, h2, h1, by rw [hitB_comm]; exact h3, e2, e1⟩ ha)
    exact fun hc => key2 f x hc h.start

/-- the group of a feature -/
noncomputable def gS (l : List Cand) (f : Int) : List Int := (setL (feats l)).filter fun x => dec (Conn (Ed l) f x)
theorem gS_of {l : List Cand} {f : Int} (hf : f ∈ feats l) {out : List Int} (h : ∀ x, x ∈ out ↔ Conn (Ed l) f x) : setL out = gS l f := by
  refine Asc.unique (setL_asc _) (List.Pairwise.filter _ (setL_asc _)) fun x => ?_
  rw [setL_mem, h, gS, List.mem_filter, setL_mem, dec_iff]
  exact ⟨fun hc => ⟨conn_feat hc hf, hc⟩, fun hc => hc.2⟩
end Go.Proofs
