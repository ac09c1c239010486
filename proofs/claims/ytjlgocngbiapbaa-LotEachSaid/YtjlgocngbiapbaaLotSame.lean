/-
  The walk of the law LotSame.
-/
import Derived.Test.YtjlgocngbiapbaaLotC
import Derived.Test.YtjlgocngbiapbaaFrame
namespace Go.Proofs.Ytjlgocngbiapbaa
open Go.RowKit

theorem wf_u64s {xs : List Int} (h : ∀ x ∈ xs, (Lit.int .u64 x).wf = true) : ∀ x ∈ xs, 0 ≤ x ∧ x ≤ 18446744073709551615 := fun x hx => wf_bounds_u64 (h x hx)

/-- Two Lots, of which the first has i drawn. -/
def SameA (w : World) (d1 g1 d2 g2 : Nat) (n : Int) (xs : List Int) (v : Value) (wr : World) : Prop :=
  ∃ i : Nat, v = .int .i64 i ∧ (i : Int) ≤ n ∧ LotsAt wr d1 g1 (xs.drop i) ∧ LotsAt wr d2 g2 xs ∧ Mod [] w wr
def SameB (w : World) (d1 g1 d2 g2 : Nat) (n : Int) (xs : List Int) (v : Value) (wr : World) : Prop :=
  ∃ i : Nat, v = .int .i64 i ∧ (i : Int) ≤ n ∧ LotsAt wr d1 g1 (xs.drop n.toNat) ∧ LotsAt wr d2 g2 (xs.drop i) ∧ Mod [] w wr

theorem drop_head (xs : List Int) (i : Nat) (h : i < xs.length) : xs[i]? = some ((xs.drop i).headD 0) := by
  rw [List.drop_eq_getElem_cons h, List.getElem?_eq_getElem h]
  rfl
theorem drop_none (xs : List Int) (i : Nat) (h : xs.length ≤ i) : (xs.drop i).headD 0 = 0 := by
  rw [List.drop_of_length_le h]
  rfl
theorem drop_tail (xs : List Int) (i : Nat) : (xs.drop i).tail = xs.drop (i + 1) := by
  rw [List.tail_drop]

theorem LotsAt.cong {w : World} {d g : Nat} {xs ys : List Int} (h : LotsAt w d g xs) (e : xs = ys) : LotsAt w d g ys := e ▸ h

set_option maxHeartbeats 4000000 in
theorem walk_LotSame (w : World) (a : Option Addr) (c : Nat) (xs : List Int) (hr : RdInts .u64 w a xs) (hwf : ∀ x ∈ xs, (Lit.int .u64 x).wf = true) (_nc : a = none → c = 0) (n : Int) (n0 : 0 ≤ n) (n1 : n ≤ 255) :
    Calls Try.prog 5 #[.slice a xs.length c, .int .u8 n] w (TruePost w) := by
  have hx := wf_u64s hwf
  have HX := Lib.hid hx
  have HR := Lib.hid hr
  clear hx hwf hr _nc
  by_cases h300 : (300 : Int) < xs.length
  · go_enter Try.func5, Try.ntmps5
    go_wp2_with (go_at_call 20; refine (shown03 _).mono ?_; rintro e w1 ⟨rfl, hM⟩)
    go_ret
    exact ⟨rfl, hM⟩
  · have hlen : xs.length ≤ 300 := by omega
    go_enter Try.func5, Try.ntmps5
    go_wp2_with fail
    refine (shown03 _).mono ?_
    rintro e w1 ⟨rfl, hM⟩
    have HM1 := Lib.hid hM
    have HR1 := Lib.hid (HR.out.mod hM (by simp))
    clear hM
    go_wp2_with fail
    refine (new_any a c xs _ HR1.out (by omega) HX.out).mono ?_
    rintro e w2 ⟨d1, g1, rfl, hd1, hg1, hL, hM⟩
    have HM2 := Lib.hid (HM1.out.trans hM)
    have HR2 := Lib.hid (HR1.out.mod hM (by simp))
    have HL2 := Lib.hid hL
    have HD1 := Lib.hid (show w.heap.size ≤ d1 by have := HM1.out.size; omega)
    have HD1' := Lib.hid hL.lt
    clear hM hL hd1 hg1
    go_wp2_with fail
    refine (new_any a c xs _ HR2.out (by omega) HX.out).mono ?_
    rintro e w3 ⟨d2, g2, rfl, hd2, hg2, hL, hM⟩
    have HM3 := Lib.hid (HM2.out.trans hM)
    have HR3 := Lib.hid (HR2.out.mod hM (by simp))
    have HL3 := Lib.hid (HL2.out.mod hM (by simp) (by simp))
    have HK3 := Lib.hid hL
    have HD2 := Lib.hid (show w.heap.size ≤ d2 by have := HM2.out.size; omega)
    have HNE := Lib.hid (show d1 ≠ d2 ∧ d1 ≠ g2 ∧ g1 ≠ d2 by have := HD1'.out; omega)
    clear hM hL hd2 hg2
    go_wp2_with fail
    go_loopw [7] (fun v wr => SameA w d1 g1 d2 g2 n xs v wr) (fun v _ => n.toNat - (intOf v).toNat)
    case atStart => exact ⟨0, rfl, n0, HL3.out, HK3.out, HM3.out⟩
    case round =>
      obtain ⟨i, rfl, hi, hA, hB, hM⟩ := hrel
      have HA := Lib.hid hA
      have HB := Lib.hid hB
      have HM := Lib.hid hM
      clear hA hB hM
      by_cases hlt : (i : Int) < n
      · go_wp2_with fail
        refine (next_any d1 g1 _ _ HA.out).mono ?_
        rintro e w4 ⟨rfl, hL, hM⟩
        have HA4 := Lib.hid (hL.cong (drop_tail xs i))
        have HB4 := Lib.hid (HB.out.mod hM (by have := HNE.out; simp; omega) (by have := HNE.out; simp; omega))
        have HM4 := Lib.hid (HM.out.step hM (by simpa using HD1.out))
        clear hL hM
        go_wp2_with fail
        go_roundw
        case rel => exact ⟨i + 1, by go_num, by omega, HA4.out, HB4.out, HM4.out⟩
        case measure => simp [intOf]; omega
      · go_wp2_with fail
        obtain rfl : n = (i : Int) := by omega
        go_loopw [8] (fun v wr => SameB w d1 g1 d2 g2 i xs v wr) (fun v _ => i - (intOf v).toNat)
        case atStart => exact ⟨0, rfl, n0, HA.out, HB.out, HM.out⟩
        case round =>
          clear HA HB HM
          obtain ⟨j, rfl, hj, hA, hB, hM⟩ := hrel
          have HA := Lib.hid hA
          have HB := Lib.hid hB
          have HM := Lib.hid hM
          have HR4 := Lib.hid (HR.out.mod hM (by simp))
          clear hA hB hM
          by_cases hji : (j : Int) < i
          · obtain ⟨y, hy⟩ : ∃ y, (xs.drop j).headD 0 = y := ⟨_, rfl⟩
            have HY := Lib.hid hy
            clear hy
            go_wp2_with fail
            refine (next_is d2 g2 _ y _ HB.out HY.out).mono ?_
            rintro e w4 ⟨rfl, hL, hM⟩
            have HB4 := Lib.hid (hL.cong (drop_tail xs j))
            have HA4 := Lib.hid (HA.out.mod hM (by have := HNE.out; simp; omega) (by have := HNE.out; simp; omega))
            have HM4 := Lib.hid (HM.out.step hM (by simpa using HD2.out))
            have HR5 := Lib.hid (HR.out.mod HM4.out (by simp))
            clear hL hM
            by_cases hjx : j < xs.length
            · have hyx : xs[j]? = some y := by rw [drop_head xs j hjx, HY.out]
              obtain ⟨ad, rfl, _, hc⟩ := HR5.out (by intro h; rw [h] at hjx; simp at hjx)
              have cj := hc j y hyx
              have hyy : (y != y) = false := by simp
              clear hc hyx
              go_wp2_with fail
              go_roundw
              case rel => exact ⟨j + 1, by go_num, by omega, HA4.out, HB4.out, HM4.out⟩
              case measure => simp [intOf]; omega
            · obtain rfl : y = 0 := by rw [← HY.out]; exact drop_none xs j (by omega)
              go_wp2_with fail
              go_roundw
              case rel => exact ⟨j + 1, by go_num, by omega, HA4.out, HB4.out, HM4.out⟩
              case measure => simp [intOf]; omega
          · obtain rfl : j = i := by omega
            obtain ⟨m, hm⟩ : ∃ m, (xs.drop j).length = m := ⟨_, rfl⟩
            have hm' : m = xs.length - j := by rw [← hm]; simp
            have HMM := Lib.hid hm
            clear hm
            have hmm : ((m : Int) == (m : Int)) = true := by simp
            by_cases hjl : (xs.length : Int) - j < 0
            · have hm0 : ((m : Int) == 0) = true := by simp; omega
              have HM' := Lib.hid hm'
              clear hm'
              go_wp2_with fail
              refine (left_is d1 g1 m _ _ HA.out HMM.out).mono ?_
              rintro e w4 ⟨rfl, rfl⟩
              go_wp2_with fail
              refine (left_is d2 g2 m _ _ HB.out HMM.out).mono ?_
              rintro e w4 ⟨rfl, rfl⟩
              go_wp2_with fail
              refine (left_is d1 g1 m _ _ HA.out HMM.out).mono ?_
              rintro e w4 ⟨rfl, rfl⟩
              go_wp2_with fail
              go_ret
              exact ⟨rfl, HM.out⟩
            · have hm0 : ((m : Int) == (xs.length : Int) - j) = true := by simp; omega
              have HM' := Lib.hid hm'
              clear hm'
              go_wp2_with fail
              refine (left_is d1 g1 m _ _ HA.out HMM.out).mono ?_
              rintro e w4 ⟨rfl, rfl⟩
              go_wp2_with fail
              refine (left_is d2 g2 m _ _ HB.out HMM.out).mono ?_
              rintro e w4 ⟨rfl, rfl⟩
              go_wp2_with fail
              refine (left_is d1 g1 m _ _ HA.out HMM.out).mono ?_
              rintro e w4 ⟨rfl, rfl⟩
              go_wp2_with fail
              go_ret
              exact ⟨rfl, HM.out⟩

end Go.Proofs.Ytjlgocngbiapbaa
