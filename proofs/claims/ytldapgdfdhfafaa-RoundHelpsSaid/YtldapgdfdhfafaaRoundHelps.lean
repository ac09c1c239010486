/-
  The walk of the law RoundHelps.
-/
import Derived.Test.YtldapgdfdhfafaaRndC
import Derived.Test.YtldapgdfdhfafaaRndE
import Derived.Test.YtldapgdfdhfafaaRndS
import Derived.Test.YtldapgdfdhfafaaFrame
namespace Go.Proofs.Ytldapgdfdhfafaa
open Go.RowKit

def lessN (B k : Nat) : Nat := if B.testBit k then B - 2 ^ k else B

theorem lessN_le (B k : Nat) : lessN B k ≤ B := by
  unfold lessN
  split
  · exact Nat.sub_le _ _
  · exact Nat.le_refl _
theorem lessN_cast {B k : Nat} (h : B.testBit k = true) : ((B : Int) - 2 ^ k) = (lessN B k : Int) := by
  have hle := bit_lt (b := (B : Int)) (by omega) (by rw [bit_test]; exact h)
  unfold lessN
  rw [if_pos h]
  have hle2 : 2 ^ k ≤ B := by exact_mod_cast hle
  rw [Int.ofNat_sub hle2]
  simp
theorem less_all (B k : Nat) (hB : B < 18446744073709551616) (hk : k < 64) (w : World) :
    Calls Try.prog 9 #[.int .u64 (B : Int), .int .i64 (k : Int)] w fun e w' => e = .returned (.int .u64 (lessN B k : Int)) ∧ w = w' := by
  cases h : B.testBit k with
  | true =>
    refine (less_any (B : Int) k (by omega) (by omega) hk (by rw [bit_test]; exact h) w).mono ?_
    rintro e w' ⟨rfl, rfl⟩
    exact ⟨by rw [lessN_cast h], rfl⟩
  | false =>
    refine (less_no (B : Int) k (by omega) (by omega) hk (by rw [bit_test]; exact h) w).mono ?_
    rintro e w' ⟨rfl, rfl⟩
    exact ⟨by unfold lessN; rw [h]; rfl, rfl⟩

theorem less_list (B k : Nat) : listTo (lessN B k : Int) 64 = without (k : Int) (listTo (B : Int) 64) := by
  cases h : B.testBit k with
  | true =>
    rw [← lessN_cast h]
    unfold listTo without
    rw [List.filter_map, List.filter_filter]
    congr 1
    apply List.filter_congr
    intro j _
    rw [less_bit (by omega) (by rw [bit_test]; exact h)]
    by_cases hj : j = k
    · subst hj
      simp
    · simp [hj]
      intro _
      omega
  | false =>
    have e : lessN B k = B := by unfold lessN; rw [h]; rfl
    rw [e, without_none]
    rw [listTo_mem]
    rintro ⟨j, _, hj, he⟩
    have : j = k := by omega
    subst this
    rw [bit_test, h] at hj
    cases hj

theorem helps_many {h : List Int} (hnd : h.Nodup) (hb : ∀ y ∈ h, 0 ≤ y ∧ y < 64) : (listTo (ofL h : Int) 64).length = h.length := by
  refine ((List.perm_ext_iff_of_nodup (listTo_nodup _ _) hnd).2 fun y => ?_).length_eq
  rw [listTo_mem]
  constructor
  · rintro ⟨j, _, hj, rfl⟩
    rw [bit_test, ofL_bit hb] at hj
    simpa using hj
  · intro hy
    have := hb y hy
    exact ⟨y.toNat, by omega, by rw [bit_test, ofL_bit hb]; simp [show ((y.toNat : Nat) : Int) = y by omega, hy], by omega⟩

theorem helps_both {h : List Int} {C : Nat} (hb : ∀ y ∈ h, 0 ≤ y ∧ y < 64) (hs : ∀ y ∈ h, y ∈ listTo (C : Int) 64) : bothTo (ofL h) C 64 = ofL h := by
  apply Nat.eq_of_testBit_eq
  intro j
  rw [bothTo_bit, ofL_bit hb]
  by_cases hj : (j : Int) ∈ h
  · have h1 := hb _ hj
    have h2 := hs _ hj
    rw [listTo_mem] at h2
    obtain ⟨i, hi, hbi, e⟩ := h2
    have : i = j := by omega
    subst this
    rw [bit_test] at hbi
    simp [hj, hbi, hi]
  · simp [hj]

set_option maxRecDepth 100000 in
set_option maxHeartbeats 8000000 in
theorem walk_RoundHelps (w : World) (b : Int) (b0 : 0 ≤ b) (b1 : b ≤ 18446744073709551615) (no : Int) (no0 : 0 ≤ no) (no1 : no ≤ 255) (n : Int) (n0 : 0 ≤ n) (n1 : n ≤ 255) (a : Option Addr) (c : Nat) (xs : List Int) (rd : RdInts .u64 w a xs) (wf : ∀ x ∈ xs, (Lit.int .u64 x).wf = true) (_nc : a = none → c = 0) :
    Calls Try.prog 3 #[.int .u64 b, .int .u8 no, .int .u8 n, .slice a xs.length c] w (TruePost w) := by
  obtain ⟨B, rfl⟩ : ∃ B : Nat, b = B := ⟨b.toNat, by omega⟩
  have RD := Lib.hid rd
  have WF := Lib.hid wf
  have HB := Lib.hid (show B < 18446744073709551616 by omega)
  have HBI := Lib.hid (And.intro b0 b1)
  clear rd wf _nc b0 b1
  by_cases h1 : (500 : Int) < xs.length
  · go_enter Try.func3, Try.ntmps3
    go_wp2_with fail
    refine (shown09 _).mono ?_
    rintro e w1 ⟨rfl, hM⟩
    have HM := Lib.hid hM
    clear hM
    go_wp2_with fail
    go_ret
    exact ⟨rfl, HM.out⟩
  obtain ⟨k, hk⟩ : ∃ k : Nat, no % 64 = k := ⟨(no % 64).toNat, by omega⟩
  have hk64 : k < 64 := by omega
  have hkt : no.tmod 64 = k := by rw [Int.tmod_eq_emod_of_nonneg no0]; exact hk
  obtain ⟨nn, hnn⟩ : ∃ nn : Nat, n % 70 = nn := ⟨(n % 70).toNat, by omega⟩
  have hnt : n.tmod 70 = nn := by rw [Int.tmod_eq_emod_of_nonneg n0]; exact hnn
  have hnb : nn < 70 := by omega
  go_enter Try.func3, Try.ntmps3
  go_wp2_with fail
  refine (shown09 _).mono ?_
  rintro e w1 ⟨rfl, hM⟩
  have HM1 := Lib.hid hM
  clear hM
  go_wp2_with fail
  refine (list_any (B : Int) HBI.out.1 HBI.out.2 _).mono ?_
  rintro e w2 ⟨v, rfl, hO, hM⟩
  obtain ⟨la, lc, rfl, hrd, hlnc, _⟩ := hO.shape
  obtain ⟨ll, hll⟩ : ∃ ll, listTo (B : Int) 64 = ll := ⟨_, rfl⟩
  have hl64 : ll.length ≤ 64 := by rw [← hll]; exact listTo_len _ _
  rw [hll] at hrd ⊢
  have HLL := Lib.hid hll
  have HRD := Lib.hid hrd
  have HLNC := Lib.hid hlnc
  have HM2 := Lib.hid (HM1.out.trans hM)
  clear hO hM hrd hlnc hll
  go_wp2_with fail
  refine (new_any a c xs _ (RD.out.mod HM2.out (by simp)) (by omega) (fun x hx => wf_bounds_u64 (WF.out x hx))).mono ?_
  rintro e w3 ⟨d, g, rfl, hd, hg, hL, hM⟩
  have HL3 := Lib.hid hL
  have HRD3 := Lib.hid (HRD.out.mod hM (by simp))
  have HM3 := Lib.hid (HM2.out.trans hM)
  have HD := Lib.hid (show w.heap.size ≤ d by have := HM2.out.size; omega)
  clear hL hM hd hg
  obtain ⟨zs, hzs⟩ : ∃ zs, without (k : Int) ll = zs := ⟨_, rfl⟩
  obtain ⟨m, hm⟩ : ∃ m : Nat, min nn zs.length = m := ⟨_, rfl⟩
  obtain ⟨hs, hhs⟩ : ∃ hs, (shufOut zs xs).take m = hs := ⟨_, rfl⟩
  have hzl : zs.length ≤ 64 := by rw [← hzs]; exact Nat.le_trans (List.length_filter_le _ _) hl64
  have hml : hs.length = m := by rw [← hhs, List.length_take, shufOut_length]; omega
  have hperm := shufOut_perm' zs xs
  have hsub : ∀ y ∈ hs, y ∈ zs := fun y hy => hperm.mem_iff.1 (by rw [← hhs] at hy; exact List.mem_of_mem_take hy)
  have hznd : zs.Nodup := by rw [← hzs, ← HLL.out]; exact List.Nodup.sublist List.filter_sublist (listTo_nodup _ _)
  have hnd : hs.Nodup := by rw [← hhs]; exact List.Nodup.sublist (List.take_sublist _ _) (hperm.nodup_iff.2 hznd)
  have hzb : ∀ y ∈ zs, 0 ≤ y ∧ y < 64 := fun y hy => by
    rw [← hzs] at hy
    have := (List.mem_filter.1 hy).1
    rw [← HLL.out, listTo_mem] at this
    obtain ⟨j, h1, _, rfl⟩ := this
    omega
  have hsb : ∀ y ∈ hs, 0 ≤ y ∧ y < 64 := fun y hy => hzb y (hsub y hy)
  have hles : listTo (lessN B k : Int) 64 = zs := by rw [less_list, HLL.out]; exact hzs
  have HMANY := Lib.hid (helps_many hnd hsb)
  have HBOTH := Lib.hid (helps_both (C := lessN B k) hsb (fun y hy => by rw [hles]; exact hsub y hy))
  have HLES := Lib.hid hles
  have HSB := Lib.hid hsb
  have HZS := Lib.hid hzs
  have HHS := Lib.hid hhs
  have HML := Lib.hid hml
  have HOL := Lib.hid (ofL_lt hsb)
  have HLN := Lib.hid (lessN_le B k)
  have HM := Lib.hid hm
  clear hzs hhs hperm hsub hznd hnd hzb hsb hles
  have HCALL := Lib.hid (helpers_any d g la lc m (k : Int) (nn : Int) ll xs hs w3 HRD3.out HLNC.out hl64 HL3.out (by rw [HZS.out]; have := HM.out; omega) (by rw [HZS.out]; exact HHS.out))
  clear hm
  go_wp2_with fail
  refine HCALL.out.mono ?_
  rintro e w4 ⟨⟨a4, c4, rfl, hr4⟩, hM4⟩
  have HR4 := Lib.hid hr4
  have HM4 := Lib.hid (HM3.out.step hM4 (by have := HD.out; simp; omega))
  have hof := of_any a4 c4 hs w4 HR4.out HSB.out (by rw [HML.out]; have := HM.out; omega)
  rw [HML.out] at hof ⊢
  have HOF := Lib.hid hof
  clear hr4 hM4 hof hml
  go_wp2_with fail
  refine HOF.out.mono ?_
  rintro e w5 ⟨rfl, rfl⟩
  go_wp2_with fail
  refine (less_all B k HB.out hk64 _).mono ?_
  rintro e w5 ⟨rfl, rfl⟩
  go_wp2_with fail
  refine (many_any (lessN B k : Int) (by omega) (by have := HLN.out; have := HB.out; omega) _).mono ?_
  rintro e w6 ⟨rfl, hM6⟩
  rw [HLES.out]
  obtain ⟨z, hz⟩ : ∃ z, zs.length = z := ⟨_, rfl⟩
  rw [hz] at hzl ⊢
  have HMZ := Lib.hid (show min nn z = m by rw [← hz]; exact HM.out)
  have HM6 := Lib.hid (HM4.out.trans hM6)
  clear hM6 hz
  have hmz := HMZ.out
  have hqm : ((m : Int) == (m : Int)) = true := by simp
  have hqo : ((ofL hs : Int) == (ofL hs : Int)) = true := by simp
  have HMA2 := Lib.hid (HMANY.out.trans HML.out)
  rcases Nat.le_total nn z with hle | hle
  all_goals
    first
      | (have hmm : m = nn := by omega)
      | (have hmm : m = z := by omega)
    subst hmm
    clear hmz
    go_wp2_with fail
    all_goals
      first
        | (exfalso; omega)
        | (refine (many_any (ofL hs : Int) (by omega) (by have := HOL.out; omega) _).mono ?_
           rintro e w7 ⟨rfl, hM7⟩
           rw [HMA2.out]
           have HM7 := Lib.hid (HM6.out.trans hM7)
           clear hM7
           go_wp2_with fail
           refine (both_any (ofL hs) (lessN B k) HOL.out (by have := HLN.out; have := HB.out; omega) _).mono ?_
           rintro e w8 ⟨rfl, rfl⟩
           rw [HBOTH.out]
           go_wp2_with fail
           go_ret
           exact ⟨by simp, HM7.out⟩)

end Go.Proofs.Ytldapgdfdhfafaa
