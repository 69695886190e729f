import Derived.Test.YtaampfdgidndkaaT2
import Derived.Test.YtaampfdgidndkaaT3
import Derived.Deep.RegionHeld3
set_option linter.unusedVariables false
set_option linter.unusedSimpArgs false
namespace Go.Proofs
open Go.RowKit Go.Proofs.Mp

def bndStep (o : List Int) (r : Int × Int) : List Int := withL (withL o r.1) r.2
def boundsL (a b : List (Int × Int)) : List Int := b.foldl bndStep (a.foldl bndStep [])

theorem withL_len (l : List Int) (n : Int) : (withL l n).length ≤ l.length + 1 := by
  unfold withL
  have := withSt_len' l n l.length
  split <;> simp_all
theorem bnd_len (zs : List (Int × Int)) (o : List Int) : (zs.foldl bndStep o).length ≤ o.length + 2 * zs.length := by
  induction zs generalizing o with
  | nil => simp
  | cons z zs ih =>
    have h1 := ih (bndStep o z)
    have h2 := withL_len o z.1
    have h3 := withL_len (withL o z.1) z.2
    simp only [List.foldl_cons, List.length_cons] at *
    unfold bndStep at h1
    unfold bndStep
    omega

set_option maxHeartbeats 1000000 in
theorem ref_bounds (A B : Option Addr) (c d : Nat) (xs ys : List (Int × Int)) (w : World) (h1 : xs.length ≤ 100000000) (h2 : ys.length ≤ 100000000) (hA : RdR w A xs) (hB : RdR w B ys) :
    Calls Try.prog 34 #[.slice A xs.length c, .slice B ys.length d] w (RetI w (boundsL xs ys)) := by
  go_enter Try.func34, Try.ntmps34
  go_wp2
  go_loopw [5, 6] (fun v i wr => ∃ (k : Nat) (A' : Option Addr) (c' : Nat), k ≤ xs.length ∧ i = .int .i64 k ∧ v = .slice A' ((xs.take k).foldl bndStep []).length c' ∧ RdI wr A' ((xs.take k).foldl bndStep []) ∧ Below w.heap.size w wr) (fun _ i _ => xs.length - (intOf i).toNat)
  case atStart => exact ⟨0, none, 0, by omega, rfl, rfl, Rd.nil _, Below.refl _ _⟩
  case round =>
    obtain ⟨k, A', c', hk, rfl, rfl, hRo, hbw⟩ := hrel
    by_cases hlt : k < xs.length
    · obtain ⟨b, off, rfl, hb, g1, g2⟩ := RdR.get hA hbw hlt
      have HX := Lib.hid (foldl_take_succ bndStep [] xs k hlt)
      have hln := bnd_len (xs.take k) []
      rw [List.length_take, Nat.min_eq_left hk] at hln
      simp only [List.length_nil] at hln
      rcases hz : xs[k]! with ⟨lo, hi⟩
      rw [hz] at g1 g2 HX
      clear hz
      generalize (xs.take k).foldl bndStep [] = o at *
      have hl2 := withL_len o lo
      have hRo' : RdI wr.drew A' o := hRo
      have hbs := hbw.size
      have tok1 : True := trivial
      clear hRo
      go_wp2_with fail
      go_region_held3 (fun w' => w'.cell? ⟨b, off + k * 2, none⟩ = some (.int .i64 lo) ∧ w'.cell? ⟨b, off + k * 2 + 1, none⟩ = some (.int .i64 hi)) (first | exact ⟨g1, g2⟩ | exact ⟨s1, s2⟩ | exact ⟨t1, t2⟩)
        (first
          | (go_at_call 47; have _t := tok1; refine (ref_with _ _ _ _ _ ?_ hRo').mono ?_; omega; rintro e w1 ⟨A1, c1, rfl, hR1, hb1⟩; have s1 := (hb1.cell (p := ⟨b, off + k * 2, none⟩) (Nat.lt_of_lt_of_le hb hbs)).trans g1; have s2 := (hb1.cell (p := ⟨b, off + k * 2 + 1, none⟩) (Nat.lt_of_lt_of_le hb hbs)).trans g2; have hbs1 := hb1.size; clear tok1 _t)
          | (go_at_call 47; refine (ref_with _ _ _ _ _ ?_ hR1).mono ?_; omega; rintro e w2 ⟨A2, c2, rfl, hR2, hb2⟩; have t1 := (hb2.cell (p := ⟨b, off + k * 2, none⟩) (Nat.lt_of_lt_of_le hb (Nat.le_trans hbs hbs1))).trans s1; have t2 := (hb2.cell (p := ⟨b, off + k * 2 + 1, none⟩) (Nat.lt_of_lt_of_le hb (Nat.le_trans hbs hbs1))).trans s2))
      have hbE : Below w.heap.size w w2 := (hbw.trans (((Below.refl wr.heap.size wr).drew.trans hb1).mono hbs)).trans (hb2.mono (Nat.le_trans hbs hbs1))
      clear hRo' hR1 hb1 hb2 g1 g2 s1 s2 t1 t2
      go_wp2
      go_roundw
      case rel => exact ⟨k + 1, A2, c2, by omega, by go_num, by rw [HX.out]; rfl, by rw [HX.out]; exact hR2, hbE⟩
      case measure => simp [intOf]; omega
    · obtain rfl : k = xs.length := by omega
      have hl0 := bnd_len xs []
      rw [List.take_length] at hRo
      go_wp2_with fail
      simp only [List.take_length]
      generalize hoo : xs.foldl bndStep [] = o0 at *
      have HO := Lib.hid hoo
      clear hoo
      simp only [List.length_nil] at hl0
      obtain ⟨wo, rfl⟩ : ∃ wo : World, wo = wr := ⟨_, rfl⟩
      go_loopw [5, 7] (fun v i wr => ∃ (k : Nat) (A' : Option Addr) (c' : Nat), k ≤ ys.length ∧ i = .int .i64 k ∧ v = .slice A' ((ys.take k).foldl bndStep o0).length c' ∧ RdI wr A' ((ys.take k).foldl bndStep o0) ∧ Below w.heap.size w wr) (fun _ i _ => ys.length - (intOf i).toNat)
      case atStart => exact ⟨0, A', c', by omega, rfl, rfl, hRo, hbw⟩
      case round =>
        clear hRo hbw
        obtain ⟨k, A', c', hk, rfl, rfl, hRo, hbw⟩ := hrel
        by_cases hlt : k < ys.length
        · obtain ⟨b, off, rfl, hb, g1, g2⟩ := RdR.get hB hbw hlt
          have HX := Lib.hid (foldl_take_succ bndStep o0 ys k hlt)
          have hln := bnd_len (ys.take k) o0
          rw [List.length_take, Nat.min_eq_left hk] at hln
          skip
          rcases hz : ys[k]! with ⟨lo, hi⟩
          rw [hz] at g1 g2 HX
          clear hz
          generalize (ys.take k).foldl bndStep o0 = o at *
          have hl2 := withL_len o lo
          have hRo' : RdI wr.drew A' o := hRo
          have hbs := hbw.size
          have tok1 : True := trivial
          clear hRo
          go_wp2_with fail
          go_region_held3 (fun w' => w'.cell? ⟨b, off + k * 2, none⟩ = some (.int .i64 lo) ∧ w'.cell? ⟨b, off + k * 2 + 1, none⟩ = some (.int .i64 hi)) (first | exact ⟨g1, g2⟩ | exact ⟨s1, s2⟩ | exact ⟨t1, t2⟩)
            (first
              | (go_at_call 47; have _t := tok1; refine (ref_with _ _ _ _ _ ?_ hRo').mono ?_; omega; rintro e w1 ⟨A1, c1, rfl, hR1, hb1⟩; have s1 := (hb1.cell (p := ⟨b, off + k * 2, none⟩) (Nat.lt_of_lt_of_le hb hbs)).trans g1; have s2 := (hb1.cell (p := ⟨b, off + k * 2 + 1, none⟩) (Nat.lt_of_lt_of_le hb hbs)).trans g2; have hbs1 := hb1.size; clear tok1 _t)
              | (go_at_call 47; refine (ref_with _ _ _ _ _ ?_ hR1).mono ?_; omega; rintro e w2 ⟨A2, c2, rfl, hR2, hb2⟩; have t1 := (hb2.cell (p := ⟨b, off + k * 2, none⟩) (Nat.lt_of_lt_of_le hb (Nat.le_trans hbs hbs1))).trans s1; have t2 := (hb2.cell (p := ⟨b, off + k * 2 + 1, none⟩) (Nat.lt_of_lt_of_le hb (Nat.le_trans hbs hbs1))).trans s2))
          have hbE : Below w.heap.size w w2 := (hbw.trans (((Below.refl wr.heap.size wr).drew.trans hb1).mono hbs)).trans (hb2.mono (Nat.le_trans hbs hbs1))
          clear hRo' hR1 hb1 hb2 g1 g2 s1 s2 t1 t2
          go_wp2
          go_roundw
          case rel => exact ⟨k + 1, A2, c2, by omega, by go_num, by rw [HX.out]; rfl, by rw [HX.out]; exact hR2, hbE⟩
          case measure => simp [intOf]; omega
        · obtain rfl : k = ys.length := by omega
          rw [List.take_length] at hRo
          go_wp2
          go_ret
          refine ⟨A', c', ?_, ?_, hbw⟩
          · have e : boundsL xs ys = ys.foldl bndStep o0 := by unfold boundsL; rw [HO.out]
            rw [e, List.take_length]; rfl
          · have e : boundsL xs ys = ys.foldl bndStep o0 := by unfold boundsL; rw [HO.out]
            rw [e]; exact hRo
end Go.Proofs
