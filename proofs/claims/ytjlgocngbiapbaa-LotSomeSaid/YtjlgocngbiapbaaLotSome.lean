/-
  The walk of the law LotSome.
-/
import Derived.Test.YtjlgocngbiapbaaLotSame
namespace Go.Proofs.Ytjlgocngbiapbaa
open Go.RowKit

set_option maxHeartbeats 4000000 in
theorem walk_LotSome (w : World) (a : Option Addr) (c : Nat) (ls : List Int) (hr : RdInts .u64 w a ls) (hwf : ∀ x ∈ ls, (Lit.int .u64 x).wf = true) (b : Option Addr) (c2 : Nat) (xs : List Int) (hr2 : RdInts .i64 w b xs) (_hwf2 : ∀ x ∈ xs, (Lit.int .i64 x).wf = true)
    (n : Int) (n0 : 0 ≤ n) (n1 : n ≤ 255) :
    Calls Try.prog 8 #[.slice a ls.length c, .slice b xs.length c2, .int .u8 n] w (TruePost w) := by
  have hx := wf_u64s hwf
  have HX := Lib.hid hx
  have HR := Lib.hid hr
  have HR2 := Lib.hid hr2
  clear hx hwf hr hr2 _hwf2
  by_cases h300 : (300 : Int) < ls.length
  · go_enter Try.func8, Try.ntmps8
    go_wp2_with (go_at_call 20; refine (shown03 _).mono ?_; rintro e w1 ⟨rfl, hM⟩)
    go_ret
    exact ⟨rfl, hM⟩
  by_cases h100 : (100 : Int) < xs.length
  · go_enter Try.func8, Try.ntmps8
    go_wp2_with (go_at_call 20; refine (shown03 _).mono ?_; rintro e w1 ⟨rfl, hM⟩)
    go_ret
    exact ⟨rfl, hM⟩
  have hlen : ls.length ≤ 300 := by omega
  have hlen2 : xs.length ≤ 100 := by omega
  go_enter Try.func8, Try.ntmps8
  go_wp2_with fail
  refine (shown03 _).mono ?_
  rintro e w1 ⟨rfl, hM⟩
  have HM1 := Lib.hid hM
  have HR1 := Lib.hid (HR.out.mod hM (by simp))
  have HS1 := Lib.hid (HR2.out.mod hM (by simp))
  clear hM
  go_wp2_with fail
  refine (new_any a c ls _ HR1.out (by omega) HX.out).mono ?_
  rintro e w2 ⟨d1, g1, rfl, hd1, hg1, hL, hM⟩
  have HM2 := Lib.hid (HM1.out.trans hM)
  have HS2 := Lib.hid (HS1.out.mod hM (by simp))
  have HL2 := Lib.hid hL
  have HD1 := Lib.hid (show w.heap.size ≤ d1 by have := HM1.out.size; omega)
  clear hM hL hd1 hg1
  by_cases hn : n < 1
  · have hn0 : (n == 0) = true := by simp; omega
    go_wp2_with fail
    refine (some_zero _ _ n _ hn).mono ?_
    rintro e w3 ⟨rfl, rfl⟩
    go_wp2_with fail
    refine (left_any d1 g1 _ _ HL2.out).mono ?_
    rintro e w3 ⟨rfl, rfl⟩
    have hz : ((ls.length : Int) - ls.length == 0) = true := by simp
    go_wp2_with fail
    go_ret
    exact ⟨rfl, HM2.out⟩
  · have hn0 : (n == 0) = false := by simp; omega
    obtain ⟨m, hm⟩ : ∃ m : Nat, (m : Int) = min n xs.length := ⟨(min n xs.length).toNat, by omega⟩
    have HMM := Lib.hid hm
    obtain ⟨k, hk⟩ : ∃ k : Nat, (shufLots xs ls).length = k := ⟨_, rfl⟩
    have hk' : k = ls.length - (xs.length - 1) := by rw [← hk, shufLots_eq]; simp
    have HK := Lib.hid hk
    have hkb : k ≤ ls.length := by omega
    clear hk hm
    go_wp2_with fail
    refine (some_pos d1 g1 b c2 m n xs ls _ HS2.out (by omega) HL2.out (by omega) HMM.out).mono ?_
    rintro e w3 ⟨g', rfl, hg', hO, hL, hM⟩
    have HL3 := Lib.hid hL
    have HM3 := Lib.hid (HM2.out.step hM (by simpa using HD1.out))
    clear hO hL hM hg'
    have HK' := Lib.hid hk'
    clear hk'
    go_wp2_with fail
    refine (left_is d1 g1 k _ _ HL3.out HK.out).mono ?_
    rintro e w4 ⟨rfl, rfl⟩
    have hm := HMM.out
    have hk := HK'.out
    have H1 : n ≤ xs.length → ((m : Int) == n) = true := by intros; rw [beq_iff_eq]; omega
    have H2 : ¬ n ≤ xs.length → ((m : Int) == xs.length) = true := by intros; rw [beq_iff_eq]; omega
    have H3 : (xs.length : Int) - 1 < 0 → ((ls.length : Int) - k == 0) = true := by intros; rw [beq_iff_eq]; omega
    have H4 : ¬ (xs.length : Int) - 1 < 0 → (ls.length : Int) ≤ (xs.length : Int) - 1 → ((ls.length : Int) - k == ls.length) = true := by intros; rw [beq_iff_eq]; omega
    have H5 : ¬ (xs.length : Int) - 1 < 0 → ¬ (ls.length : Int) ≤ (xs.length : Int) - 1 → ((ls.length : Int) - k == (xs.length : Int) - 1) = true := by intros; rw [beq_iff_eq]; omega
    have H6 : (ls.length : Int) ≤ 0 → ((ls.length : Int) - k == ls.length) = true := by intros; rw [beq_iff_eq]; omega
    clear hm hk
    by_cases c1 : n ≤ xs.length
    · have f1 := H1 c1
      clear H1 H2
      by_cases c2 : (xs.length : Int) - 1 < 0
      · omega
      · by_cases c3 : (ls.length : Int) ≤ (xs.length : Int) - 1
        · have f2 := H4 c2 c3
          clear H3 H4 H5 H6
          go_wp2_with fail
          go_ret
          exact ⟨rfl, HM3.out⟩
        · have f2 := H5 c2 c3
          clear H3 H4 H5 H6
          go_wp2_with fail
          go_ret
          exact ⟨rfl, HM3.out⟩
    · have f1 := H2 c1
      clear H1 H2
      by_cases c2 : (xs.length : Int) - 1 < 0
      · have f2 := H3 c2
        by_cases c4 : (ls.length : Int) ≤ 0
        · have f3 := H6 c4
          clear H3 H4 H5 H6
          go_wp2_with fail
          go_ret
          exact ⟨rfl, HM3.out⟩
        · clear H3 H4 H5 H6
          go_wp2_with fail
          go_ret
          exact ⟨rfl, HM3.out⟩
      · by_cases c3 : (ls.length : Int) ≤ (xs.length : Int) - 1
        · have f2 := H4 c2 c3
          clear H3 H4 H5 H6
          go_wp2_with fail
          go_ret
          exact ⟨rfl, HM3.out⟩
        · have f2 := H5 c2 c3
          clear H3 H4 H5 H6
          go_wp2_with fail
          go_ret
          exact ⟨rfl, HM3.out⟩

end Go.Proofs.Ytjlgocngbiapbaa
