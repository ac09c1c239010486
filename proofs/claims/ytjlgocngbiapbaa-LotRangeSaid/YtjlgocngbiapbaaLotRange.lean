/-
  The walk of the law LotRange.
-/
import Derived.Test.YtjlgocngbiapbaaLotC
namespace Go.Proofs.Ytjlgocngbiapbaa
open Go.RowKit

set_option maxHeartbeats 4000000 in
theorem walk_LotRange (n : Int) (_n0 : -9223372036854775808 ≤ n) (n1 : n ≤ 9223372036854775807) (x : Int) (x0 : 0 ≤ x) (x1 : x ≤ 18446744073709551615) (w : World) :
    Calls Try.prog 4 #[.int .i64 n, .int .u64 x] w (TruePost w) := by
  have hb : ∃ k, lotBelow [x] n = k := ⟨_, rfl⟩
  obtain ⟨k, hk⟩ := hb
  have HK := Lib.hid hk
  clear hk
  have hx : ∀ y ∈ [x], 0 ≤ y ∧ y ≤ 18446744073709551615 := by simp; omega
  have HX := Lib.hid hx
  have N1 := Lib.hid n1
  clear hx
  go_enter Try.func4, Try.ntmps4
  go_wp2_with fail
  refine (new_any (some ⟨w.heap.size, 0, none⟩) 1 [x] _ (RdInts.of_row (heap_new _ _)) (by simp) HX.out).mono ?_
  rintro e w1 ⟨d, g, rfl, hd, hg, hL, hM⟩
  have HM1 := Lib.hid (((Mod.refl [] w).alloc _).trans hM)
  have HL := Lib.hid hL
  have hd1 : w.heap.size ≤ d := by simp at hd; omega
  clear hL hM hd hg
  go_wp2_with fail
  refine (below_any d g [x] n _ HL.out N1.out).mono ?_
  rintro e w2 ⟨rfl, _, hM⟩
  rw [HK.out]
  have HM2 := Lib.hid (HM1.out.step hM (by simpa using hd1))
  clear hM hd1
  go_wp2_with fail
  refine (new_any none 0 [] _ (fun h => absurd rfl h) (by simp) (by simp)).mono ?_
  rintro e w3 ⟨d', g', rfl, hd, hg, hL, hM⟩
  have HM3 := Lib.hid (HM2.out.trans hM)
  have HL3 := Lib.hid hL
  have hd3 : w.heap.size ≤ d' := by have := HM2.out.size; omega
  have HD3 := Lib.hid hd3
  clear hL hM hd hg hd3
  go_wp2_with fail
  refine (below_any d' g' [] n _ HL3.out N1.out).mono ?_
  rintro e w4 ⟨rfl, hL, hM⟩
  rw [show lotBelow [] n = 0 by unfold lotBelow; split <;> simp]
  have HL4 := Lib.hid (show LotsAt w4 d' g' [] by unfold lotRest at hL; split at hL <;> exact hL)
  have HM4 := Lib.hid (HM3.out.step hM (by simpa using HD3.out))
  clear hL hM
  go_wp2_with fail
  refine (next_nil d' g' _ HL4.out).mono ?_
  rintro e w5 ⟨rfl, rfl⟩
  go_wp2_with fail
  refine (left_any d' g' [] _ HL4.out).mono ?_
  rintro e w5 ⟨rfl, rfl⟩
  go_wp2_with fail
  refine (shown03 _).mono ?_
  rintro e w5 ⟨rfl, hM⟩
  have HM5 := Lib.hid (HM4.out.trans hM)
  clear hM
  by_cases hn : n < 2
  · have hk0 : (k == 0) = true := by have := HK.out; unfold lotBelow at this; rw [if_pos hn] at this; simp [this.symm]
    go_wp2_with fail
    go_ret
    exact ⟨rfl, HM5.out⟩
  · have hkk : x % n = k := by have := HK.out; unfold lotBelow at this; rw [if_neg hn] at this; simpa using this
    have hk0 : 0 ≤ k := by rw [← hkk]; exact Int.emod_nonneg _ (by omega)
    have hkn : k < n := by rw [← hkk]; exact Int.emod_lt_of_pos _ (by omega)
    have hxm : ∀ y ∈ [x % n], 0 ≤ y ∧ y ≤ 18446744073709551615 := by simp; omega
    have hkb : lotBelow [x % n] n = k := by
      unfold lotBelow
      rw [if_neg hn]
      simp [hkk]
      exact Int.emod_eq_of_lt hk0 hkn
    have HXM := Lib.hid hxm
    have HKB := Lib.hid hkb
    clear hkk hxm hkb
    go_wp2_with fail
    refine (new_any (some ⟨w5.heap.size, 0, none⟩) 1 [x % n] _ (RdInts.of_row (heap_new _ _)) (by simp) HXM.out).mono ?_
    rintro e w6 ⟨d6, g6, rfl, hd, hg, hL, hM⟩
    have HM6 := Lib.hid ((HM5.out.alloc _).trans hM)
    have HL6 := Lib.hid hL
    have hd6 : w.heap.size ≤ d6 := by have := HM5.out.size; simp at hd; omega
    have HD6 := Lib.hid hd6
    clear hL hM hd hg hd6
    go_wp2_with fail
    refine (below_any d6 g6 [x % n] n _ HL6.out N1.out).mono ?_
    rintro e w7 ⟨rfl, _, hM⟩
    rw [HKB.out]
    have HM7 := Lib.hid (HM6.out.step hM (by simpa using HD6.out))
    clear hM
    go_wp2_with fail
    go_ret
    exact ⟨rfl, HM7.out⟩

end Go.Proofs.Ytjlgocngbiapbaa
