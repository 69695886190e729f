/- ascending, sheets, find: lists of products. -/
import Derived.Test.YtnckglojbhlekaaQ13
set_option linter.unusedVariables false
set_option linter.unusedSimpArgs false
namespace Go.Proofs
open Go.RowKit Go.Proofs.Mp

structure Pd where
  s : Int
  p : P4
def z1 : Pl := ⟨0, 0, none, 0, []⟩
def z4 : P4 := ⟨z1, z1, z1, z1⟩
def z0 : Pd := ⟨0, z4⟩
instance : Inhabited Pd := ⟨z0⟩
def encQ (x : Pd) : List Value := [.int .i64 x.s, .int .i64 0, .slice none 0 0, .slice none 0 0, .slice none 0 0, .slice none 0 0, .int .i64 x.p.p0.w, .int .i64 x.p.p0.h, .slice x.p.p0.a x.p.p0.v.length x.p.p0.c, .int .i64 x.p.p1.w, .int .i64 x.p.p1.h, .slice x.p.p1.a x.p.p1.v.length x.p.p1.c, .int .i64 x.p.p2.w, .int .i64 x.p.p2.h, .slice x.p.p2.a x.p.p2.v.length x.p.p2.c, .int .i64 x.p.p3.w, .int .i64 x.p.p3.h, .slice x.p.p3.a x.p.p3.v.length x.p.p3.c, .int .u64 0]
theorem encQ_len (x : Pd) : (encQ x).length = 19 := rfl
theorem encQ_one (x : Pd) : ∀ u ∈ encQ x, u.oneCell' = true := by
  intro u hu
  simp only [encQ, List.mem_cons, List.not_mem_nil, or_false] at hu
  rcases hu with rfl | rfl | rfl | rfl | rfl | rfl | rfl | rfl | rfl | rfl | rfl | rfl | rfl | rfl | rfl | rfl | rfl | rfl | rfl <;> rfl
def shs (xs : List Pd) : List Int := xs.map Pd.s
theorem shs_len (xs : List Pd) : (shs xs).length = xs.length := List.length_map _
theorem shs_get (xs : List Pd) {j : Nat} (hj : j < xs.length) : (shs xs)[j]! = xs[j]!.s := by
  have hj' : j < (shs xs).length := by rw [shs_len]; exact hj
  rw [getElem!_pos _ j hj', getElem!_pos xs j hj]
  simp [shs]
theorem Pd.sGet {w wr : World} {A : Option Addr} {xs : List Pd} (h : Rd 19 encQ w A xs) (hb : Below w.heap.size w wr) {j : Nat} (hj : j < (shs xs).length) :
    ∃ b off, A = some ⟨b, off, none⟩ ∧ b < w.heap.size ∧ ∀ j, j < (shs xs).length → wr.cell? ⟨b, off + j * 19, none⟩ = some (.int .i64 (shs xs)[j]!) := by
  rw [shs_len] at hj
  obtain ⟨b, off, rfl, hlt, hc⟩ := Rd.get h hb hj
  refine ⟨b, off, rfl, hlt, fun j hj => ?_⟩
  rw [shs_len] at hj
  rw [shs_get xs hj]
  exact hc j hj 0 _ rfl

set_option maxHeartbeats 800000 in
theorem proof_ascending (A : Option Addr) (c : Nat) (xs : List Pd) (w : World) (hmax : xs.length ≤ 1000000) (hR : Rd 19 encQ w A xs) :
    Calls Try.prog 32 #[.slice A xs.length c] w (RetV w (.bool (ascB (shs xs)))) := by
  have hG := Lib.hid (fun wr (hb : Below w.heap.size w wr) j (hj : j < (shs xs).length) => Pd.sGet hR hb hj)
  rw [← shs_len xs] at hmax ⊢
  clear hR
  generalize shs xs = zs at *
  go_enter Try.func32, Try.ntmps32
  go_wp2
  go_loopw [3] (fun i wr => ∃ k : Nat, 1 ≤ k ∧ k ≤ 1000000000001 ∧ i = .int .i64 k ∧ ascTo zs k ∧ Below w.heap.size w wr) (fun i _ => zs.length - (intOf i).toNat)
  case atStart => exact ⟨1, by omega, by omega, rfl, fun j h1 hj => by omega, Below.refl _ _⟩
  case round =>
    obtain ⟨k, hk1, hk2, rfl, has, hbw⟩ := hrel
    by_cases hlt : k < zs.length
    · obtain ⟨b, off, rfl, hb, hc⟩ := hG.out wr hbw k hlt
      have g1 := hc k hlt
      have g0 := hc (k - 1) (by omega)
      obtain ⟨x, hx⟩ : ∃ x, zs[k-1]! = x := ⟨_, rfl⟩
      obtain ⟨y, hy⟩ : ∃ y, zs[k]! = y := ⟨_, rfl⟩
      rw [hx] at g0
      rw [hy] at g1
      have HX := Lib.hid hx
      have HY := Lib.hid hy
      have e1 : IntKind.i64.wrap ((k : Int) - 1) = ((k - 1 : Nat) : Int) := by rw [IntWalk.i64_in _ (by omega)]; omega
      clear hx hy hc
      by_cases he : x < y
      · have hN : decide (y ≤ x) = false := decide_eq_false (by omega)
        have HE := Lib.hid he
        clear he
        go_wp2
        go_quiet (fail)
        go_wp2
        go_roundw
        case rel => exact ⟨k + 1, by omega, by omega, by go_num, ascTo_succ has (by rw [HX.out, HY.out]; exact HE.out), hbw.trans (below_drewN (Below.refl _ _) _)⟩
        case measure => simp [intOf]; omega
      · have hN : decide (y ≤ x) = true := decide_eq_true (by omega)
        have HE := Lib.hid he
        clear he
        go_wp2
        go_quiet (fail)
        go_wp2
        go_ret
        exact RetV.bool (asc_no hk1 hlt (by rw [HX.out, HY.out]; have := HE.out; omega)).symm (hbw.trans (below_drewN (Below.refl _ _) _))
    · go_wp2
      go_ret
      exact RetV.bool (asc_yes (by omega) has).symm hbw

set_option maxHeartbeats 800000 in
theorem ref_sheets (A : Option Addr) (c : Nat) (xs : List Pd) (w : World) (hmax : xs.length ≤ 1000000) (hR : Rd 19 encQ w A xs) :
    Calls Try.prog 35 #[.slice A xs.length c] w (fun e w' => ∃ v, e = .returned v ∧ OwnI 3 w' w.heap.size v (shs xs) ∧ Below w.heap.size w w') := by
  have hG := Lib.hid (fun wr (hb : Below w.heap.size w wr) j (hj : j < (shs xs).length) => Pd.sGet hR hb hj)
  rw [← shs_len xs] at hmax ⊢
  clear hR
  generalize shs xs = zs at *
  go_enter Try.func35, Try.ntmps35
  go_wp2
  go_loopw [3, 4] (fun v i wr => ∃ k : Nat, k ≤ zs.length ∧ i = .int .i64 k ∧ OwnI 3 wr w.heap.size v (zs.take k) ∧ Below w.heap.size w wr) (fun _ i _ => zs.length - (intOf i).toNat)
  case atStart => exact ⟨0, by omega, rfl, Own.nil w _, Below.refl _ _⟩
  case round =>
    obtain ⟨k, hk, rfl, hown, hbw⟩ := hrel
    by_cases hlt : k < zs.length
    · obtain ⟨b, off, rfl, hb, hc⟩ := hG.out wr hbw k hlt
      have g1 := hc k hlt
      obtain ⟨y, hy⟩ : ∃ y, zs[k]! = y := ⟨_, rfl⟩
      rw [hy] at g1
      have HY := Lib.hid hy
      clear hy hc
      have hs1 := hbw.size
      have hlen : (zs.take k).length = k := by rw [List.length_take]; omega
      have HT := Lib.hid (List.take_succ_eq_append_getElem hlt)
      have HY2 : Hid (zs[k] = y) := Lib.hid (by rw [← HY.out, getElem!_pos zs k hlt])
      go_wp2_with (at_builtin; refine Try.appI hown y rfl _ _ rfl rfl rfl (by omega) hs1 ?_; intro v2 w2 hown2 hb2)
      go_roundw
      case rel => exact ⟨k + 1, by omega, by go_num, by rw [HT.out, HY2.out]; exact hown2, hbw.trans hb2⟩
      case measure => simp [intOf]; omega
    · obtain rfl : k = zs.length := by omega
      rw [List.take_length] at hown
      go_wp2
      go_ret
      exact ⟨_, rfl, hown, hbw⟩
end Go.Proofs
