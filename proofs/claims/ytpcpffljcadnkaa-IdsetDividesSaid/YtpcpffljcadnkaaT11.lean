import Derived.Test.YtpcpffljcadnkaaT10
set_option linter.unusedVariables false
set_option linter.unusedSimpArgs false
namespace Go.Proofs
open Go.RowKit Go.Proofs.Mp

set_option maxHeartbeats 1000000 in
theorem ref_union (A B : Option Addr) (c d : Nat) (xs l : List Int) (w : World) (h1 : xs.length ≤ 100000000) (hmax : l.length ≤ 100000000) (hA : RdI w A xs) (hR : RdI w B l) :
    Calls Try.prog 19 #[.slice A xs.length c, .slice B l.length d] w (RetRc 1 Mp.encI w (putL (putL [] xs) l)) := by
  have cN := ref_normal A c xs w h1 hA
  have hn := putL_len [] xs
  simp only [List.length_nil] at hn
  generalize putL [] xs = na at *
  clear hA
  go_enter Try.func19, Try.ntmps19
  go_wp2_with fail
  refine cN.mono ?_
  rintro e w1 ⟨A1, c1, rfl, hc1, hR1, hb1⟩
  have hR' := hR.below hb1
  clear hR
  go_wp2_with fail
  go_loopw [5, 6] (fun v i wr => ∃ k : Nat, k ≤ l.length ∧ i = .int .i64 k ∧ SlI wr v (putL na (l.take k)) ∧ Below w1.heap.size w1 wr) (fun _ i _ => l.length - (intOf i).toNat)
  case atStart => exact ⟨0, by omega, rfl, ⟨A1, c1, rfl, hc1, hR1⟩, Below.refl _ _⟩
  case round =>
    obtain ⟨k, hk, rfl, ⟨A', c', rfl, hc', hRo⟩, hbw⟩ := hrel
    by_cases hlt : k < l.length
    · obtain ⟨b, off, rfl, hb, g1⟩ := RdI.get hR' hbw hlt
      have HX := Lib.hid (putL_take (o := na) hlt)
      have hle := putL_len na (l.take k)
      have hle2 : (l.take k).length ≤ l.length := by simp; omega
      generalize l[k]! = x at *
      generalize putL na (l.take k) = o at *
      have cW := ref_with A' c' x o wr hc' (by omega) hRo
      have hs := hbw.size
      go_wp2_with fail
      refine cW.mono ?_
      rintro e w2 ⟨A2, c2, rfl, hc2, hR2, hb2⟩
      go_wp2
      go_roundw
      case rel => exact ⟨k + 1, by omega, by go_num, by rw [HX.out]; exact ⟨A2, c2, rfl, hc2, hR2⟩, hbw.trans (hb2.mono hs)⟩
      case measure => simp [intOf]; omega
    · obtain rfl : k = l.length := by omega
      simp only [List.take_length] at hRo hc' ⊢
      go_wp2
      go_ret
      exact ⟨A', c', rfl, hc', hRo, hb1.trans (hbw.mono hb1.size)⟩


set_option maxHeartbeats 1000000 in
theorem ref_inter (A B : Option Addr) (c d : Nat) (l ys : List Int) (w : World) (hmax : l.length ≤ 100000000) (h2 : ys.length ≤ 100000000) (hR : RdI w A l) (hB : RdI w B ys) :
    Calls Try.prog 21 #[.slice A l.length c, .slice B ys.length d] w (RetRc 1 Mp.encI w (putL [] (l.filter fun x => decide (x ∈ ys)))) := by
  have hb0 : Below w.heap.size w (w.alloc (.cells #[] 3)) := (Below.refl _ _).alloc (Nat.le_refl _) _
  have hN0 : SlI (w.alloc (.cells #[] 3)) (.slice (some ⟨w.heap.size, 0, none⟩) 0 0) [] := ⟨_, 0, rfl, Nat.le_refl _, Rd.nil _⟩
  have HB := Lib.hid (fun (x : Int) (W : World) (hb : Below w.heap.size w W) => ref_has B d x ys W (by omega) (hB.below hb))
  obtain ⟨p, hp⟩ : ∃ p : Int → Bool, p = fun x => decide (x ∈ ys) := ⟨_, rfl⟩
  rw [← hp]
  have HB' : Hid (∀ (x : Int) (W : World), Below w.heap.size w W → Calls Try.prog 14 #[.slice B ys.length d, .int .i64 x] W (RetV W (.bool (p x)))) := Lib.hid (fun x W hb => by rw [hp]; exact call_b (HB.out x W hb) (by simp))
  clear HB hp hB
  go_enter Try.func21, Try.ntmps21
  go_wp2_with fail
  go_loopw [5, 6] (fun v i wr => ∃ k : Nat, k ≤ l.length ∧ i = .int .i64 k ∧ SlI wr v (putL [] ((l.take k).filter p)) ∧ Below w.heap.size w wr) (fun _ i _ => l.length - (intOf i).toNat)
  case atStart => exact ⟨0, by omega, rfl, hN0, hb0⟩
  case round =>
    obtain ⟨k, hk, rfl, ⟨A', c', rfl, hc', hRo⟩, hbw⟩ := hrel
    by_cases hlt : k < l.length
    · obtain ⟨b, off, rfl, hb, g1⟩ := RdI.get hR hbw hlt
      have HX := Lib.hid (putL_filter_take (o := []) p hlt)
      have hle := putL_len [] ((l.take k).filter p)
      have hle2 : ((l.take k).filter p).length ≤ l.length := Nat.le_trans (List.length_filter_le _ _) (by simp; omega)
      generalize l[k]! = x at *
      generalize putL [] ((l.take k).filter p) = o at *
      simp only [List.length_nil] at hle
      have cH := HB'.out x wr hbw
      have hs := hbw.size
      rcases hp : p x with _ | _
      · have HP := Lib.hid hp
        have cH' := call_b cH (show p x = false by rw [hp])
        clear hp cH
        go_wp2_with fail
        refine cH'.mono ?_
        rintro e w2 ⟨rfl, hb2⟩
        go_wp2
        go_roundw
        case rel => exact ⟨k + 1, by omega, by go_num, by rw [HX.out, HP.out]; exact (SlI.below ⟨A', c', rfl, hc', hRo⟩ hb2), hbw.trans (hb2.mono hs)⟩
        case measure => simp [intOf]; omega
      · have HP := Lib.hid hp
        have cH' := call_b cH (show p x = true by rw [hp])
        clear hp cH
        go_wp2_with fail
        refine cH'.mono ?_
        rintro e w2 ⟨rfl, hb2⟩
        have cW := ref_with A' c' x o w2 hc' (by omega) (hRo.below hb2)
        have g1' := (hb2.cell (p := ⟨b, off + k, none⟩) (Nat.lt_of_lt_of_le hb hbw.size)).trans g1
        go_wp2_with fail
        refine cW.mono ?_
        rintro e w3 ⟨A3, c3, rfl, hc3, hR3, hb3⟩
        have k3 := hbw.trans ((hb2.trans (hb3.mono hb2.size)).mono hs)
        go_wp2
        go_roundw
        case rel => exact ⟨k + 1, by omega, by go_num, by rw [HX.out, HP.out]; exact ⟨A3, c3, rfl, hc3, hR3⟩, k3⟩
        case measure => simp [intOf]; omega
    · obtain rfl : k = l.length := by omega
      simp only [List.take_length] at hRo hc' ⊢
      go_wp2
      go_ret
      exact ⟨A', c', rfl, hc', hRo, hbw⟩

set_option maxHeartbeats 1000000 in
theorem ref_minus (A B : Option Addr) (c d : Nat) (l ys : List Int) (w : World) (hmax : l.length ≤ 100000000) (h2 : ys.length ≤ 100000000) (hR : RdI w A l) (hB : RdI w B ys) :
    Calls Try.prog 23 #[.slice A l.length c, .slice B ys.length d] w (RetRc 1 Mp.encI w (putL [] (l.filter fun x => !decide (x ∈ ys)))) := by
  have hb0 : Below w.heap.size w (w.alloc (.cells #[] 3)) := (Below.refl _ _).alloc (Nat.le_refl _) _
  have hN0 : SlI (w.alloc (.cells #[] 3)) (.slice (some ⟨w.heap.size, 0, none⟩) 0 0) [] := ⟨_, 0, rfl, Nat.le_refl _, Rd.nil _⟩
  have HB := Lib.hid (fun (x : Int) (W : World) (hb : Below w.heap.size w W) => ref_has B d x ys W (by omega) (hB.below hb))
  obtain ⟨p, hp⟩ : ∃ p : Int → Bool, p = fun x => !decide (x ∈ ys) := ⟨_, rfl⟩
  rw [← hp]
  have HB' : Hid (∀ (x : Int) (W : World), Below w.heap.size w W → Calls Try.prog 14 #[.slice B ys.length d, .int .i64 x] W (RetV W (.bool (!p x)))) := Lib.hid (fun x W hb => by rw [hp]; exact call_b (HB.out x W hb) (by simp))
  clear HB hp hB
  go_enter Try.func23, Try.ntmps23
  go_wp2_with fail
  go_loopw [5, 6] (fun v i wr => ∃ k : Nat, k ≤ l.length ∧ i = .int .i64 k ∧ SlI wr v (putL [] ((l.take k).filter p)) ∧ Below w.heap.size w wr) (fun _ i _ => l.length - (intOf i).toNat)
  case atStart => exact ⟨0, by omega, rfl, hN0, hb0⟩
  case round =>
    obtain ⟨k, hk, rfl, ⟨A', c', rfl, hc', hRo⟩, hbw⟩ := hrel
    by_cases hlt : k < l.length
    · obtain ⟨b, off, rfl, hb, g1⟩ := RdI.get hR hbw hlt
      have HX := Lib.hid (putL_filter_take (o := []) p hlt)
      have hle := putL_len [] ((l.take k).filter p)
      have hle2 : ((l.take k).filter p).length ≤ l.length := Nat.le_trans (List.length_filter_le _ _) (by simp; omega)
      generalize l[k]! = x at *
      generalize putL [] ((l.take k).filter p) = o at *
      simp only [List.length_nil] at hle
      have cH := HB'.out x wr hbw
      have hs := hbw.size
      rcases hp : p x with _ | _
      · have HP := Lib.hid hp
        have cH' := call_b cH (show (!p x) = true by rw [hp]; rfl)
        clear hp cH
        go_wp2_with fail
        refine cH'.mono ?_
        rintro e w2 ⟨rfl, hb2⟩
        go_wp2
        go_roundw
        case rel => exact ⟨k + 1, by omega, by go_num, by rw [HX.out, HP.out]; exact (SlI.below ⟨A', c', rfl, hc', hRo⟩ hb2), hbw.trans (hb2.mono hs)⟩
        case measure => simp [intOf]; omega
      · have HP := Lib.hid hp
        have cH' := call_b cH (show (!p x) = false by rw [hp]; rfl)
        clear hp cH
        go_wp2_with fail
        refine cH'.mono ?_
        rintro e w2 ⟨rfl, hb2⟩
        have cW := ref_with A' c' x o w2 hc' (by omega) (hRo.below hb2)
        have g1' := (hb2.cell (p := ⟨b, off + k, none⟩) (Nat.lt_of_lt_of_le hb hbw.size)).trans g1
        go_wp2_with fail
        refine cW.mono ?_
        rintro e w3 ⟨A3, c3, rfl, hc3, hR3, hb3⟩
        have k3 := hbw.trans ((hb2.trans (hb3.mono hb2.size)).mono hs)
        go_wp2
        go_roundw
        case rel => exact ⟨k + 1, by omega, by go_num, by rw [HX.out, HP.out]; exact ⟨A3, c3, rfl, hc3, hR3⟩, k3⟩
        case measure => simp [intOf]; omega
    · obtain rfl : k = l.length := by omega
      simp only [List.take_length] at hRo hc' ⊢
      go_wp2
      go_ret
      exact ⟨A', c', rfl, hc', hRo, hbw⟩
end Go.Proofs
