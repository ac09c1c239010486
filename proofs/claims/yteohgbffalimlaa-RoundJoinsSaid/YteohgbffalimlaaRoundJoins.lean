/-
  The walk of the law RoundJoins.
-/
import Derived.Test.YteohgbffalimlaaRndB
import Derived.Test.YteohgbffalimlaaRndK
import Derived.Test.YteohgbffalimlaaRndP
import Derived.Test.YteohgbffalimlaaSame
import Derived.Test.YteohgbffalimlaaFrame
namespace Go.Proofs.Yteohgbffalimlaa
open Go.RowKit

theorem OwnInts.rd {w : World} {g : Nat} {xs : List Int} (h : OwnInts w g xs) : RdInts .i64 w (some ⟨g, 0, none⟩) xs := RdInts.of_row h

def wo (x : Int) (xs : List Int) : List Int := xs.filter fun y => !(y == x)
theorem wo_yes {x : Int} {xs : List Int} {j : Nat} (h : xs[j]? = some x) : wo x (xs.take (j + 1)) = wo x (xs.take j) := by
  unfold wo
  rw [List.take_add_one, h, List.filter_append]
  simp
theorem wo_no {x y : Int} {xs : List Int} {j : Nat} (h : xs[j]? = some y) (hne : (y == x) = false) : wo x (xs.take (j + 1)) = wo x (xs.take j) ++ [y] := by
  unfold wo
  rw [List.take_add_one, h, List.filter_append]
  simp at hne
  simp [hne]
theorem count_yes {x : Int} {xs : List Int} {j : Nat} (h : xs[j]? = some x) : (xs.take (j + 1)).count x = (xs.take j).count x + 1 := by
  rw [List.take_add_one, h, List.count_append]
  simp
theorem count_no {x y : Int} {xs : List Int} {j : Nat} (h : xs[j]? = some y) (hne : (y == x) = false) : (xs.take (j + 1)).count x = (xs.take j).count x := by
  rw [List.take_add_one, h, List.count_append]
  simp at hne
  simp [List.count_cons, hne]

theorem join_mem (L ls : List Int) (y : Int) : y ∈ joinL L y ls := by
  unfold joinL
  split
  · assumption
  · simp [insAt]
theorem join_count {L : List Int} (hL : L.Nodup) (ls : List Int) (y : Int) : (joinL L y ls).count y = 1 := by
  unfold joinL
  split
  · rw [hL.count]
    simp [*]
  · rename_i h
    have h1 : (L.take (joinK L ls)).count y = 0 := List.count_eq_zero.2 fun hm => h (List.mem_of_mem_take hm)
    have h2 : (L.drop (joinK L ls)).count y = 0 := List.count_eq_zero.2 fun hm => h (List.mem_of_mem_drop hm)
    rw [insAt, List.count_append, List.count_cons_self, h1, h2]
theorem join_wo (L ls : List Int) (y : Int) : wo y (joinL L y ls) = wo y L := by
  unfold joinL
  split
  · rfl
  · unfold wo insAt
    rw [List.filter_append, List.filter_cons_of_neg (by simp), ← List.filter_append, List.take_append_drop]
theorem join_len (L ls : List Int) (y : Int) : (joinL L y ls).length ≤ L.length + 1 := by
  unfold joinL
  split
  · omega
  · unfold insAt
    simp
    omega
theorem join_again (L ls ls2 : List Int) (y : Int) : joinL (joinL L y ls) y ls2 = joinL L y ls := by
  rw [joinL, if_pos (join_mem L ls y)]

theorem first_round {l ls : List Int} (hl : l ≠ []) (hnd : l.Nodup) : (rNext [] l ls).2.1.Nodup ∧ (rNext [] l ls).2.1.length ≤ l.length := by
  have hperm : (shufOut l ls).Perm l := List.perm_iff_count.2 fun x => shufOut_count l ls x
  have h1 : (rNext [] l ls).2.1 = (shufOut l ls).tail := by
    unfold rNext
    rw [if_pos (show rDrop l [] = [] from rfl)]
  rw [h1]
  refine ⟨List.Nodup.sublist (List.tail_sublist _) (hperm.nodup_iff.2 hnd), ?_⟩
  rw [List.length_tail, shufOut_length]
  omega

set_option maxRecDepth 100000 in
set_option maxHeartbeats 8000000 in
theorem walk_RoundJoins (w : World) (b : Int) (b0 : 0 ≤ b) (b1 : b ≤ 18446744073709551615) (no : Int) (no0 : 0 ≤ no) (no1 : no ≤ 255) (a : Option Addr) (c : Nat) (xs : List Int) (rd : RdInts .u64 w a xs) (wf : ∀ x ∈ xs, (Lit.int .u64 x).wf = true) (_nc : a = none → c = 0) :
    Calls Try.prog 3 #[.int .u64 b, .int .u8 no, .slice a xs.length c] w (TruePost w) := by
  have RD := Lib.hid rd
  have WF := Lib.hid wf
  have HB := Lib.hid (And.intro b0 b1)
  clear rd wf _nc b0 b1
  obtain ⟨k, hk⟩ : ∃ k : Nat, no % 64 = k := ⟨(no % 64).toNat, by omega⟩
  have hk64 : k < 64 := by omega
  have hkt : no.tmod 64 = k := by rw [Int.tmod_eq_emod_of_nonneg no0]; exact hk
  go_enter Try.func3, Try.ntmps3
  go_wp2_with fail
  refine (list_any b HB.out.1 HB.out.2 _).mono ?_
  rintro e w1 ⟨v, rfl, hO, hM⟩
  obtain ⟨la, lc, rfl, hrd, _⟩ := hO.shape
  have HM1 := Lib.hid hM
  obtain ⟨ll, hll⟩ : ∃ ll, listTo b 64 = ll := ⟨_, rfl⟩
  rw [hll] at hrd ⊢
  obtain ⟨n, hn⟩ : ∃ n, ll.length = n := ⟨_, rfl⟩
  have hn64 : n ≤ 64 := by rw [← hn, ← hll]; exact listTo_len b 64
  have HLL := Lib.hid hll
  have HN := Lib.hid hn
  have HRD1 := Lib.hid hrd
  rw [hn]
  clear hO hM hrd hll hn
  by_cases hn0 : n = 0
  · have hnz : ((n : Int) == 0) = true := by simp; omega
    clear hn0
    go_wp2_with fail
    refine (shown09 _).mono ?_
    rintro e w2 ⟨rfl, hM⟩
    have HM := Lib.hid (HM1.out.trans hM)
    clear hM
    go_wp2_with fail
    go_ret
    exact ⟨rfl, HM.out⟩
  have hnz : ((n : Int) == 0) = false := by simp; omega
  by_cases h1 : (300 : Int) < xs.length
  · go_wp2_with fail
    refine (shown09 _).mono ?_
    rintro e w2 ⟨rfl, hM⟩
    have HM := Lib.hid (HM1.out.trans hM)
    clear hM
    go_wp2_with fail
    go_ret
    exact ⟨rfl, HM.out⟩
  go_wp2_with fail
  refine (shown09 _).mono ?_
  rintro e w2 ⟨rfl, hM⟩
  have HM2 := Lib.hid (HM1.out.trans hM)
  have HRD2 := Lib.hid (HRD1.out.mod hM (by simp))
  clear hM
  go_wp2_with fail
  refine (new_any a c xs _ (RD.out.mod HM2.out (by simp)) (by omega) (fun x hx => wf_bounds_u64 (WF.out x hx))).mono ?_
  rintro e w3 ⟨d, g, rfl, hd, hg, hL, hM⟩
  obtain ⟨r, hr⟩ : ∃ r, w3.heap.size = r := ⟨_, rfl⟩
  have HL3 := Lib.hid (hL.mod ((Mod.refl [] _).alloc (.cells #[.slice none 0 0] 31)) (by simp) (by simp))
  have HR3 := Lib.hid (show RoundAt [r, d] (w3.alloc (.cells #[.slice none 0 0] 31)) r [] by rw [← hr]; exact RoundAt.empty _ w3 31)
  have HM3 := Lib.hid ((HM2.out.trans hM).alloc (.cells #[.slice none 0 0] 31))
  have HRD3 := Lib.hid ((HRD2.out.mod hM (by simp)).alloc (.cells #[.slice none 0 0] 31))
  have HG := Lib.hid (show d < r ∧ g < r ∧ w.heap.size ≤ d by
    have h1 := hL.lt
    have h2 := HM2.out.size
    omega)
  have hne : ll ≠ [] := by intro h; have := HN.out; rw [h] at this; simp at this; omega
  have hnd : ll.Nodup := by rw [← HLL.out]; exact listTo_nodup b 64
  have hfst := first_round (ls := xs) hne hnd
  have hnx := rnext_any [r, d] r d g la lc ll [] xs _ HR3.out HL3.out HRD3.out hne (by have := HN.out; omega) (by simp) (by have := HG.out; simp; omega) (by have := HG.out; omega) (by have := HG.out; omega)
  rw [HN.out] at hnx
  obtain ⟨L1, hL1⟩ : ∃ L1, (rNext [] ll xs).2.1 = L1 := ⟨_, rfl⟩
  obtain ⟨ls1, hls1⟩ : ∃ ls1, (rNext [] ll xs).2.2 = ls1 := ⟨_, rfl⟩
  rw [hL1, HN.out] at hfst
  have HF := Lib.hid hfst
  have HNX := Lib.hid hnx
  have HLS := Lib.hid (And.intro hL1 hls1)
  clear hL hM hd hg hne hnd hfst hnx hL1 hls1 hk hkt
  go_wp2_with fail
  refine HNX.out.mono ?_
  rintro e w4 ⟨rfl, hR, hL, hM⟩
  rw [HLS.out.1] at hR
  rw [HLS.out.2] at hL
  have HR4 := Lib.hid hR
  have HL4 := Lib.hid hL
  have HM4 := Lib.hid (HM3.out.step hM (by have := HG.out; simp; omega))
  clear hR hL hM
  go_wp2_with fail
  refine (rleft_any [r, d] r L1 _ HR4.out (by have := HF.out.2; omega)).mono ?_
  rintro e w5 ⟨g5, rfl, hg5, hO, hM⟩
  have HR5 := Lib.hid (HR4.out.same hM)
  have HL5 := Lib.hid (HL4.out.mod hM (by simp) (by simp))
  have HM5 := Lib.hid (HM4.out.trans hM)
  have HW5 := Lib.hid hO.rd
  have HG5 := Lib.hid (show g5 ∉ [d, r] by
    have h4 : r < w4.heap.size := by
      obtain ⟨_, _, _, _, _, _, _, h6, _⟩ := HR4.out
      exact h6
    have := HG.out
    simp
    omega)
  obtain ⟨n1, hn1⟩ : ∃ n1, L1.length = n1 := ⟨_, rfl⟩
  have HN1 := Lib.hid hn1
  rw [hn1]
  clear hO hM hg5 hn1
  go_wp2_with fail
  refine (join_any [r, d] r d g (k : Int) L1 ls1 _ HR5.out HL5.out (by have := HF.out.2; omega) (by simp) (by simp) (by
    have h4 := HL5.out.lt
    obtain ⟨_, _, _, _, _, _, _, h6, _⟩ := HR5.out
    simp
    omega) (by have := HG.out; omega) (by have := HG.out; omega)).mono ?_
  rintro e w6 ⟨rfl, hR, hL, hM⟩
  obtain ⟨L2, hL2⟩ : ∃ L2, joinL L1 (k : Int) ls1 = L2 := ⟨_, rfl⟩
  rw [hL2] at hR
  have hl2 : L2.length ≤ 65 := by rw [← hL2]; have := join_len L1 ls1 (k : Int); have := HF.out.2; omega
  have HR6 := Lib.hid hR
  have HL6 := Lib.hid hL
  have HM6 := Lib.hid (HM5.out.step hM (by have := HG.out; simp; omega))
  have HW6 := Lib.hid (HW5.out.mod hM (by intro ad h; injection h with h; rw [← h]; exact HG5.out))
  have HLL2 := Lib.hid hL2
  clear hR hL hM hL2
  go_wp2_with fail
  refine (rleft_any [r, d] r L2 _ HR6.out (by omega)).mono ?_
  rintro e w7 ⟨g7, rfl, hg7, hO, hM⟩
  have HR7 := Lib.hid (HR6.out.same hM)
  have HL7 := Lib.hid (HL6.out.mod hM (by simp) (by simp))
  have HM7 := Lib.hid (HM6.out.trans hM)
  have HW7 := Lib.hid (HW6.out.mod hM (by simp))
  have HV7 := Lib.hid hO.rd
  have HG7 := Lib.hid (show g7 ∉ [d, r] by
    have h4 : r < w6.heap.size := by
      obtain ⟨_, _, _, _, _, _, _, h6, _⟩ := HR6.out
      exact h6
    have := HG.out
    simp
    omega)
  obtain ⟨n2, hn2⟩ : ∃ n2, L2.length = n2 := ⟨_, rfl⟩
  have HN2 := Lib.hid hn2
  rw [hn2] at hl2 ⊢
  clear hO hM hg7 hn2
  go_wp2_with fail
  refine (join_any [r, d] r d g (k : Int) L2 _ _ HR7.out HL7.out (by have := HN2.out; omega) (by simp) (by simp) (by
    have h4 := HL7.out.lt
    obtain ⟨_, _, _, _, _, _, _, h6, _⟩ := HR7.out
    simp
    omega) (by have := HG.out; omega) (by have := HG.out; omega)).mono ?_
  rintro e w8 ⟨rfl, hR, hL, hM⟩
  have hag : joinL L2 (k : Int) (joinR L1 (k : Int) ls1) = L2 := by rw [← HLL2.out]; exact join_again _ _ _ _
  rw [hag] at hR
  have HR8 := Lib.hid hR
  have HM8 := Lib.hid (HM7.out.step hM (by have := HG.out; simp; omega))
  have HW8 := Lib.hid (HW7.out.mod hM (by intro ad h; injection h with h; rw [← h]; exact HG5.out))
  have HV8 := Lib.hid (HV7.out.mod hM (by intro ad h; injection h with h; rw [← h]; exact HG7.out))
  clear hR hL hM hag
  go_wp2_with fail
  refine (rleft_any [r, d] r L2 _ HR8.out (by have := HN2.out; omega)).mono ?_
  rintro e w9 ⟨g9, rfl, hg9, hO, hM⟩
  have HM9 := Lib.hid (HM8.out.trans hM)
  have HW9 := Lib.hid (HW8.out.mod hM (by simp))
  have HV9 := Lib.hid (HV8.out.mod hM (by simp))
  have HU9 := Lib.hid hO.rd
  rw [HN2.out]
  clear hO hM hg9
  go_wp2_with fail
  refine (same_is _ _ _ _ n2 n2 L2 L2 _ HN2.out.symm HN2.out.symm HV9.out HU9.out (by have := HN2.out; omega)).mono ?_
  rintro e w10 ⟨rfl, q, rfl⟩
  rw [decide_eq_true rfl]
  have HWC := Lib.hid (show RdInts .i64 (w9.drewN q) (some ⟨g5, 0, none⟩) L1 from HW9.out)
  have HVC := Lib.hid (show RdInts .i64 (w9.drewN q) (some ⟨g7, 0, none⟩) L2 from HV9.out)
  have HMC := Lib.hid (HM9.out.drewN q)
  go_wp2_with fail
  have hsz : w9.heap.size = (w9.drewN q).heap.size := rfl
  rw [hsz]
  generalize w9.drewN q = wC at HWC HVC HMC ⊢
  clear hsz
  go_loopw [13, 14, 15] (fun v t u wr => ∃ i : Nat, u = .int .i64 i ∧ t = .int .i64 ((L2.take i).count (k : Int) : Nat) ∧ i ≤ n2 ∧ Owned .i64 3 wr wC.heap.size v (wo (k : Int) (L2.take i)) ∧ Mod [] wC wr) (fun _ _ u _ => n2 - (intOf u).toNat)
  case atStart => exact ⟨0, rfl, rfl, Nat.zero_le _, Owned.empty _ (heap_new _ _) (Nat.le_refl _), (Mod.refl _ _).alloc _⟩
  case round =>
    obtain ⟨i, rfl, rfl, hi, hO, hM⟩ := hrel
    have HO := Lib.hid hO
    have HM := Lib.hid hM
    have HWL := Lib.hid (show (wo (k : Int) (L2.take i)).length ≤ 65 by
      have h1 := List.length_filter_le (fun y => !(y == (k : Int))) (L2.take i)
      rw [List.length_take] at h1
      unfold wo
      omega)
    obtain ⟨cn, hcn⟩ : ∃ cn, (L2.take i).count (k : Int) = cn := ⟨_, rfl⟩
    have hcl : cn ≤ 65 := by
      have h1 := List.count_le_length (a := (k : Int)) (l := L2.take i)
      rw [hcn, List.length_take] at h1
      omega
    have HCN := Lib.hid hcn
    rw [hcn]
    clear hO hM hcn
    by_cases hlt : (i : Int) < (n2 : Int)
    · obtain ⟨x, hx⟩ : ∃ x, L2[i]? = some x := ⟨_, List.getElem?_eq_getElem (by have := HN2.out; omega)⟩
      obtain ⟨ad, had, _, hcx⟩ := (HVC.out.mod HM.out (by simp)) (by intro h; rw [h] at hx; simp at hx)
      injection had with had
      have cx := hcx i x hx
      rw [← had, add_lit, Nat.zero_add] at cx
      have HX := Lib.hid hx
      clear hcx hx had
      by_cases hxk : x = (k : Int)
      · have hq : (x == (k : Int)) = true := by simpa using hxk
        have HCY := Lib.hid (count_yes (x := (k : Int)) (show L2[i]? = some (k : Int) by rw [HX.out, hxk]))
        have HWY := Lib.hid (wo_yes (x := (k : Int)) (show L2[i]? = some (k : Int) by rw [HX.out, hxk]))
        clear hxk
        go_wp2_with fail
        go_roundw
        case rel => exact ⟨i + 1, by go_num, by rw [HCY.out, HCN.out]; go_num, by omega, by rw [HWY.out]; exact HO.out, HM.out⟩
        case measure => simp [intOf]; omega
      · have hq : (x == (k : Int)) = false := by simpa using hxk
        have HCY := Lib.hid (count_no HX.out hq)
        clear hxk
        go_wp2_with (at_builtin; with_reducible refine wpList_append_rd rfl (.tmp 76) (.tmp 81) 24 rfl wC.heap.size 3 .i64 8 Try.underlying24 Try.info_int _ (wo (k : Int) (L2.take i)) rfl (HO.out.mod ((Mod.refl [] _).alloc _) (by simp)) _ _ [x] rfl ?o1 (by simp) ?o2 ?o3 ?o4 ?o5)
        case o1 => exact RdInts.of_row (heap_new _ _)
        case o2 => have := HWL.out; simp [maxLen]; omega
        case o3 => have := HWL.out; simp; omega
        case o4 => have := HM.out.size; simp; omega
        case o5 =>
          intro v' w2' hO2 hgr _
          rw [← wo_no HX.out hq] at hO2
          have HO2 := Lib.hid hO2
          have HM2' := Lib.hid (grown_ge (HM.out.alloc _) hgr (fun b hb => (HO.out.own_ge b hb).1))
          clear hO2 hgr
          go_wp2_with fail
          go_roundw
          case rel => exact ⟨i + 1, by go_num, by rw [HCY.out, HCN.out], by omega, HO2.out, HM2'.out⟩
          case measure => simp [intOf]; omega
    · obtain rfl : i = n2 := by omega
      have hall : L2.take i = L2 := List.take_of_length_le (by rw [HN2.out]; exact Nat.le_refl _)
      have hc1 : cn = 1 := by
        have := HCN.out
        rw [hall, ← HLL2.out, join_count HF.out.1] at this
        exact this.symm
      subst hc1
      have HLEFT := Lib.hid (show Owned .i64 3 wr wC.heap.size _ (wo (k : Int) L1) by
        have := HO.out
        rw [hall, ← HLL2.out, join_wo] at this
        exact this)
      have HWD := Lib.hid (HWC.out.mod HM.out (by simp))
      have HMD := Lib.hid (HMC.out.trans HM.out)
      clear hall HO HM
      go_wp2_with fail
      obtain ⟨wD, rfl⟩ : ∃ wD, wD = wr := ⟨_, rfl⟩
      have hn1b : n1 ≤ 64 := by have := HF.out.2; have := HN1.out; omega
      have HLD := Lib.hid HLEFT.out
      go_loopw [16, 17] (fun v u w' => ∃ j : Nat, u = .int .i64 j ∧ j ≤ n1 ∧ Owned .i64 3 w' wD.heap.size v (wo (k : Int) (L1.take j)) ∧ Mod [] wD w') (fun _ u _ => n1 - (intOf u).toNat)
      case atStart => exact ⟨0, rfl, Nat.zero_le _, Owned.empty _ (heap_new _ _) (Nat.le_refl _), (Mod.refl _ _).alloc _⟩
      case round =>
        clear HWL HCN
        obtain ⟨i, rfl, hi2, hO, hM⟩ := hrel
        have HO := Lib.hid hO
        have HM := Lib.hid hM
        have HWL := Lib.hid (show (wo (k : Int) (L1.take i)).length ≤ 64 by
          have h1 := List.length_filter_le (fun y => !(y == (k : Int))) (L1.take i)
          rw [List.length_take] at h1
          have := HF.out.2
          unfold wo
          omega)
        clear hO hM
        by_cases hlt2 : (i : Int) < (n1 : Int)
        · obtain ⟨x, hx⟩ : ∃ x, L1[i]? = some x := ⟨_, List.getElem?_eq_getElem (by have := HN1.out; omega)⟩
          obtain ⟨ad, had, _, hcx⟩ := (HWD.out.mod HM.out (by simp)) (by intro h; rw [h] at hx; simp at hx)
          injection had with had
          have HLT := Lib.hid (show i < n1 by omega)
          have cx := hcx i x hx
          rw [← had, add_lit, Nat.zero_add] at cx
          have HX := Lib.hid hx
          clear hcx hx had
          by_cases hxk : x = (k : Int)
          · have hq : (x != (k : Int)) = false := by simpa using hxk
            have HWY := Lib.hid (wo_yes (x := (k : Int)) (show L1[i]? = some (k : Int) by rw [HX.out, hxk]))
            clear hxk
            go_wp2_with fail
            go_roundw
            case rel => exact ⟨i + 1, by go_num, HLT.out, by rw [HWY.out]; exact HO.out, HM.out⟩
            case measure => have := HLT.out; simp [intOf]; omega
          · have hqn : (x != (k : Int)) = true := by simpa using hxk
            have hq : (x == (k : Int)) = false := by simpa using hxk
            clear hxk
            go_wp2_with (at_builtin; with_reducible refine wpList_append_rd rfl (.tmp 96) (.tmp 101) 24 rfl wD.heap.size 3 .i64 8 Try.underlying24 Try.info_int _ (wo (k : Int) (L1.take i)) rfl (HO.out.mod ((Mod.refl [] _).alloc _) (by simp)) _ _ [x] rfl ?p1 (by simp) ?p2 ?p3 ?p4 ?p5)
            case p1 => exact RdInts.of_row (heap_new _ _)
            case p2 => have := HWL.out; simp [maxLen]; omega
            case p3 => have := HWL.out; simp; omega
            case p4 => have := HM.out.size; simp; omega
            case p5 =>
              intro v' w2' hO2 hgr _
              rw [← wo_no HX.out hq] at hO2
              have HO2 := Lib.hid hO2
              have HM2' := Lib.hid (grown_ge (HM.out.alloc _) hgr (fun b hb => (HO.out.own_ge b hb).1))
              clear hO2 hgr
              go_wp2_with fail
              go_roundw
              case rel => exact ⟨i + 1, by go_num, HLT.out, HO2.out, HM2'.out⟩
              case measure => have := HLT.out; simp [intOf]; omega
        · obtain rfl : i = n1 := by omega
          have hall : L1.take i = L1 := List.take_of_length_le (by rw [HN1.out]; exact Nat.le_refl _)
          have hright := HO.out
          rw [hall] at hright
          have hleft := HLD.out.mod HM.out (by simp)
          obtain ⟨a1, k1, rfl, r1, _⟩ := hleft.shape
          obtain ⟨a2, k2, rfl, r2, _⟩ := hright.shape
          have hwl : (wo (k : Int) L1).length ≤ 64 := by
            have h1 := List.length_filter_le (fun y => !(y == (k : Int))) L1
            have := HF.out.2
            unfold wo
            omega
          obtain ⟨m1, hm1⟩ : ∃ m1, (wo (k : Int) L1).length = m1 := ⟨_, rfl⟩
          have HSM := Lib.hid (same_is a1 a2 k1 k2 m1 m1 (wo (k : Int) L1) (wo (k : Int) L1) wr hm1.symm hm1.symm r1 r2 (by omega))
          have HMW := Lib.hid (HMD.out.trans HM.out)
          rw [hm1]
          clear hright hleft r1 r2 hall hwl hm1 HO HLD HLEFT
          go_wp2_with fail
          refine HSM.out.mono ?_
          rintro e w12 ⟨rfl, q2, rfl⟩
          try simp only [decide_true]
          go_wp2_with fail
          go_ret
          exact ⟨rfl, HMW.out.drewN q2⟩

end Go.Proofs.Yteohgbffalimlaa
