/-
  The walk of the law RoundNone.
-/
import Derived.Test.YtkfikpfllhfodaaRndC
import Derived.Test.YtkfikpfllhfodaaRndD
import Derived.Test.YtkfikpfllhfodaaRndP
import Derived.Test.YtkfikpfllhfodaaLotL
import Derived.Test.YtkfikpfllhfodaaFrame
namespace Go.Proofs.Ytkfikpfllhfodaa
open Go.RowKit

set_option maxHeartbeats 1000000 in
theorem rnext_none (r d c : Nat) (a : Option Addr) (w : World) :
    Calls Try.prog 6 #[.pointer (some ⟨r, 0, none⟩), .slice a 0 c, .pointer (some ⟨d, 0, none⟩)] w fun e w' => e = .returned (.tuple #[.int .i64 0, .bool false]) ∧ Mod [] w w' := by
  go_enter Try.func6, Try.ntmps6
  go_wp2_with fail
  go_ret2
  exact ⟨rfl, (Mod.refl _ _).alloc _⟩

theorem rDrop_head {xs L : List Int} {x : Int} {T : List Int} (h : rDrop xs L = x :: T) : x ∈ xs := by
  induction L with
  | nil => cases h
  | cons y L ih =>
    unfold rDrop at h
    by_cases hy : y ∈ xs
    · rw [List.dropWhile_cons_of_neg (by simp [hy])] at h
      injection h with h1 h2
      rw [← h1]; exact hy
    · rw [List.dropWhile_cons_of_pos (by simp [hy])] at h
      exact ih h
theorem rNext_in {L xs ls : List Int} (hne : xs ≠ []) : (rNext L xs ls).1 ∈ xs := by
  unfold rNext
  cases h : rDrop xs L with
  | nil =>
    rw [if_pos rfl]
    have hl := shufOut_length xs ls
    cases hs : shufOut xs ls with
    | nil => rw [hs] at hl; exact absurd (List.eq_nil_of_length_eq_zero hl.symm) hne
    | cons y ys => exact shufOut_mem (xs := xs) (ls := ls) (by rw [hs]; simp)
  | cons x T =>
    rw [if_neg (by simp)]
    exact rDrop_head h

theorem less_gone {b : Int} {k : Nat} (b0 : 0 ≤ b) (h : bit b k = true) : (k : Int) ∉ listTo (b - 2 ^ k) 64 := by
  rw [listTo_mem]
  rintro ⟨j, _, hj, e⟩
  rw [less_bit b0 h, if_pos (by omega)] at hj
  cases hj
theorem less_some {b : Int} {k : Nat} (b0 : 0 ≤ b) (h : bit b k = true) (hl : 2 ≤ (listTo b 64).length) : listTo (b - 2 ^ k) 64 ≠ [] := by
  have hnd := listTo_nodup b 64
  obtain ⟨x, y, T, e⟩ : ∃ x y T, listTo b 64 = x :: y :: T := by
    match h : listTo b 64 with
    | [] => rw [h] at hl; simp at hl
    | [_] => rw [h] at hl; simp at hl
    | x :: y :: T => exact ⟨x, y, T, rfl⟩
  rw [e] at hnd
  have hxy : x ≠ y := by
    have := (List.nodup_cons.1 hnd).1
    intro e2
    apply this
    simp [e2]
  have key : ∀ z, z ∈ listTo b 64 → z ≠ k → z ∈ listTo (b - 2 ^ k) 64 := by
    intro z hz hzk
    rw [listTo_mem] at hz ⊢
    obtain ⟨j, h1, h2, h3⟩ := hz
    exact ⟨j, h1, by rw [less_bit b0 h, if_neg (by omega)]; exact h2, h3⟩
  intro hnil
  by_cases hx : x = k
  · have := key y (by rw [e]; simp) (by omega)
    rw [hnil] at this
    cases this
  · have := key x (by rw [e]; simp) hx
    rw [hnil] at this
    cases this

def NoneRel (w0 : World) (r d g n : Nat) (v : Value) (wr : World) : Prop :=
  ∃ (i : Nat) (L ls : List Int), v = .int .i64 i ∧ i ≤ n ∧ RoundAt [r, d] wr r L ∧ LotsAt wr d g ls ∧ Mod [] w0 wr

set_option maxRecDepth 100000 in
set_option maxHeartbeats 8000000 in
theorem walk_RoundNone (w : World) (b : Int) (b0 : 0 ≤ b) (b1 : b ≤ 18446744073709551615) (gone : Int) (gone0 : 0 ≤ gone) (gone1 : gone ≤ 255) (a : Option Addr) (c : Nat) (xs : List Int) (rd : RdInts .u64 w a xs) (wf : ∀ x ∈ xs, (Lit.int .u64 x).wf = true) (_nc : a = none → c = 0) :
    Calls Try.prog 3 #[.int .u64 b, .int .u8 gone, .slice a xs.length c] w (TruePost w) := by
  have RD := Lib.hid rd
  have WF := Lib.hid wf
  have HB := Lib.hid (And.intro b0 b1)
  clear rd wf _nc b0 b1
  by_cases h1 : (300 : Int) < xs.length
  · go_enter Try.func3, Try.ntmps3
    go_wp2_with fail
    refine (shown09 _).mono ?_
    rintro e w1 ⟨rfl, hM⟩
    have HM := Lib.hid hM
    clear hM
    go_wp2_with fail
    go_ret
    exact ⟨rfl, HM.out⟩
  go_enter Try.func3, Try.ntmps3
  go_wp2_with fail
  refine (shown09 _).mono ?_
  rintro e w1 ⟨rfl, hM⟩
  have HM1 := Lib.hid hM
  clear hM
  go_wp2_with fail
  refine (new_any a c xs _ (RD.out.mod HM1.out (by simp)) (by omega) (fun x hx => wf_bounds_u64 (WF.out x hx))).mono ?_
  rintro e w2 ⟨d, g, rfl, hd, hg, hL, hM⟩
  have HL2 := Lib.hid hL
  have HM2 := Lib.hid (HM1.out.trans hM)
  have HD := Lib.hid (show w.heap.size ≤ d ∧ w.heap.size ≤ g ∧ d < w2.heap.size ∧ g < w2.heap.size by have := HM1.out.size; have := hL.lt; omega)
  clear hd hg hL hM
  go_wp2_with fail
  refine (rnext_none w2.heap.size d 0 none _).mono ?_
  rintro e w3 ⟨rfl, hM⟩
  have HR3 := Lib.hid ((RoundAt.empty [w2.heap.size, d] w2 30).same hM)
  have HL3 := Lib.hid ((HL2.out.mod ((Mod.refl [] _).alloc (.cells #[.slice none 0 0] 30)) (by simp) (by simp)).mod hM (by simp) (by simp))
  have HM3 := Lib.hid ((HM2.out.alloc _).trans hM)
  clear hM
  go_wp2_with fail
  refine (left_any d g xs _ HL3.out).mono ?_
  rintro e w4 ⟨rfl, rfl⟩
  have hxx : ((xs.length : Int) != (xs.length : Int)) = false := by simp
  go_wp2_with fail
  refine (rleft_any [w2.heap.size, d] w2.heap.size [] _ HR3.out (by decide)).mono ?_
  rintro e w4 ⟨g', rfl, hg', hO, hM⟩
  have HR4 := Lib.hid (HR3.out.same hM)
  have HL4 := Lib.hid (HL3.out.mod hM (by simp) (by simp))
  have HM4 := Lib.hid (HM3.out.trans hM)
  clear hO hM hg'
  go_wp2_with fail
  refine (list_any b HB.out.1 HB.out.2 _).mono ?_
  rintro e w5 ⟨v, rfl, hO, hM⟩
  obtain ⟨la, lc, rfl, hrd, _, _, _, hlg⟩ := hO.shape
  have HR5 := Lib.hid (HR4.out.same hM)
  have HL5 := Lib.hid (HL4.out.mod hM (by simp) (by simp))
  have HM5 := Lib.hid (HM4.out.trans hM)
  have HRD := Lib.hid hrd
  have HLG := Lib.hid (show ∀ ad, la = some ad → ad.block ∉ [d, w2.heap.size] by
    intro ad h
    obtain ⟨g2, rfl, hge⟩ := hlg ad h
    have h2 := HL4.out.lt
    have h3 : w2.heap.size < w4.heap.size := by
      obtain ⟨_, _, _, _, _, _, _, h6, _⟩ := HR4.out
      exact h6
    simp
    omega)
  obtain ⟨ll, hll⟩ : ∃ ll, listTo b 64 = ll := ⟨_, rfl⟩
  rw [hll] at HRD
  rw [hll]
  obtain ⟨n, hn⟩ : ∃ n, ll.length = n := ⟨_, rfl⟩
  have hn64 : n ≤ 64 := by rw [← hn, ← hll]; exact listTo_len b 64
  have HLL := Lib.hid hll
  have HN := Lib.hid hn
  rw [hn]
  clear hO hM hrd hlg hll hn
  by_cases hn2 : (n : Int) < 2
  · go_wp2_with fail
    go_ret
    exact ⟨rfl, HM5.out⟩
  obtain ⟨r, hr⟩ : ∃ r, w2.heap.size = r := ⟨_, rfl⟩
  have HG := Lib.hid (show r ≠ d ∧ r ≠ g ∧ w.heap.size ≤ d ∧ w.heap.size ≤ r by have := HD.out; have := HM2.out.size; omega)
  rw [hr] at HR5 HLG
  have hne : ll ≠ [] := by intro h; have := HN.out; rw [h] at this; simp at this; omega
  have hGl : ∀ s ∈ [r, d], s < w5.heap.size := by
    have h2 := HL5.out.lt
    obtain ⟨_, _, _, _, _, _, _, h6, _⟩ := HR5.out
    simp
    omega
  have hnx := rnext_any [r, d] r d g la lc ll [] xs w5 HR5.out HL5.out HRD.out hne (by have := HN.out; omega) (by simp) hGl HG.out.1 HG.out.2.1
  rw [HN.out] at hnx
  have HNX := Lib.hid hnx
  clear hnx hGl hne HR3 HR4 HL2 HL3 HL4 HM1 HM2 HM3 HM4
  have hn2' : 2 ≤ n := by omega
  rw [hr]
  clear hr
  go_wp2_with fail
  refine HNX.out.mono ?_
  rintro e w6 ⟨rfl, hR, hL, hM⟩
  obtain ⟨L1, hL1⟩ : ∃ L1, (rNext [] ll xs).2.1 = L1 := ⟨_, rfl⟩
  obtain ⟨ls1, hls1⟩ : ∃ ls1, (rNext [] ll xs).2.2 = ls1 := ⟨_, rfl⟩
  obtain ⟨y1, hy1⟩ : ∃ y1, (rNext [] ll xs).1 = y1 := ⟨_, rfl⟩
  rw [hL1] at hR
  rw [hls1] at hL
  rw [hy1]
  have HR6 := Lib.hid hR
  have HL6 := Lib.hid hL
  have HM6 := Lib.hid (HM5.out.step hM (by have := HG.out; simp; omega))
  have HRD6 := Lib.hid (HRD.out.mod hM (by intro ad h; have := HLG.out ad h; simp at this ⊢; omega))
  obtain ⟨q, hq⟩ : ∃ q : Nat, gone % (n : Int) = q := ⟨(gone % (n : Int)).toNat, by have := Int.emod_nonneg gone (show (n : Int) ≠ 0 by omega); omega⟩
  have hqn : q < n := by have := Int.emod_lt_of_pos gone (show 0 < (n : Int) by omega); omega
  have hqt : gone.tmod (n : Int) = q := by rw [Int.tmod_eq_emod_of_nonneg gone0]; exact hq
  obtain ⟨kx, hkx⟩ : ∃ kx, ll[q]? = some kx := ⟨_, List.getElem?_eq_getElem (by have := HN.out; omega)⟩
  obtain ⟨ad, rfl, _, hcx⟩ := HRD6.out (by intro h; have := HN.out; rw [h] at this; simp at this; omega)
  have cx := hcx q kx hkx
  have hmem : kx ∈ listTo b 64 := by rw [HLL.out]; exact List.mem_of_getElem? hkx
  rw [listTo_mem] at hmem
  obtain ⟨j, hj64, hbj, hjk⟩ := hmem
  subst hjk
  have hbl := bit_lt HB.out.1 hbj
  have HBJ := Lib.hid hbj
  have HPOW := Lib.hid (show 0 ≤ b - 2 ^ j ∧ b - 2 ^ j ≤ 18446744073709551615 by
    have hp : (0 : Int) < 2 ^ j := Int.pow_pos (by omega)
    have := HB.out
    omega)
  clear hR hL hM hL1 hls1 hy1 hcx hkx hbj hbl HNX HR5 HL5
  go_wp2_with fail
  refine (less_any b j HB.out.1 HB.out.2 hj64 HBJ.out _).mono ?_
  rintro e w7 ⟨rfl, rfl⟩
  clear cx
  go_wp2_with fail
  refine (list_any (b - 2 ^ j) HPOW.out.1 HPOW.out.2 _).mono ?_
  rintro e w7 ⟨v, rfl, hO, hM⟩
  obtain ⟨la2, lc2, rfl, hrd, _, _, _, hlg⟩ := hO.shape
  have HR7 := Lib.hid (HR6.out.same hM)
  have HL7 := Lib.hid (HL6.out.mod hM (by simp) (by simp))
  have HM7 := Lib.hid (HM6.out.trans hM)
  have HLG7 := Lib.hid (show ∀ ad, la2 = some ad → ad.block ∉ [d, r] by
    intro ad h
    obtain ⟨g2, rfl, hge⟩ := hlg ad h
    have h2 := HL6.out.lt
    have h3 : r < w6.heap.size := by
      obtain ⟨_, _, _, _, _, _, _, h6, _⟩ := HR6.out
      exact h6
    simp
    omega)
  obtain ⟨l2, hl2⟩ : ∃ l2, listTo (b - 2 ^ j) 64 = l2 := ⟨_, rfl⟩
  have HNO := Lib.hid (show (j : Int) ∉ l2 by rw [← hl2]; exact less_gone HB.out.1 HBJ.out)
  have HSO := Lib.hid (show l2 ≠ [] by rw [← hl2]; exact less_some HB.out.1 HBJ.out (by rw [HLL.out, HN.out]; exact hn2'))
  rw [hl2] at hrd ⊢
  have hl64 : l2.length ≤ 64 := by rw [← hl2]; exact listTo_len _ 64
  obtain ⟨n2, hn2e⟩ : ∃ n2, l2.length = n2 := ⟨_, rfl⟩
  rw [hn2e] at hl64 ⊢
  have HN2 := Lib.hid hn2e
  have HRD7 := Lib.hid hrd
  have hmul : wrap64 (2 * (n : Int)) = 2 * (n : Int) := wrap_small (by omega) (by omega)
  clear hO hM hrd hlg hl2 hn2e hq hqt hqn
  go_wp2_with fail
  obtain ⟨wA, rfl⟩ : ∃ wA, wA = w7 := ⟨_, rfl⟩
  go_loopw [14] (fun v wr => ∃ (i : Nat) (L ls : List Int), v = .int .i64 i ∧ i ≤ 2 * n ∧ RoundAt [r, d] wr r L ∧ LotsAt wr d g ls ∧ Mod [d, r] wA wr) (fun v _ => 2 * n - (intOf v).toNat)
  case atStart => exact ⟨0, _, _, rfl, Nat.zero_le _, HR7.out, HL7.out, Mod.refl _ _⟩
  case round =>
    obtain ⟨i, L, ls, rfl, hi, hR, hL, hM⟩ := hrel
    have HR := Lib.hid hR
    have HL := Lib.hid hL
    have HM := Lib.hid hM
    clear hR hL hM
    by_cases hlt : (i : Int) < 2 * (n : Int)
    · have hGl : ∀ s ∈ [r, d], s < wr.heap.size := by
        have h2 := HL.out.lt
        obtain ⟨_, _, _, _, _, _, _, h6, _⟩ := HR.out
        simp
        omega
      have hnx := rnext_any [r, d] r d g la2 lc2 l2 L ls wr HR.out HL.out (HRD7.out.mod HM.out HLG7.out) HSO.out (by have := HN2.out; omega) (by simp) hGl HG.out.1 HG.out.2.1
      rw [HN2.out] at hnx
      obtain ⟨x, hx⟩ : ∃ x, (rNext L l2 ls).1 = x := ⟨_, rfl⟩
      have hxj : (x == (j : Int)) = false := by
        have := rNext_in (L := L) (ls := ls) HSO.out
        rw [hx] at this
        have hh : x ≠ j := fun e => HNO.out (by rw [← e]; exact this)
        simpa using hh
      have HX := Lib.hid hx
      have HNX := Lib.hid hnx
      clear hnx hGl hx
      go_wp2_with fail
      refine HNX.out.mono ?_
      rintro e w8 ⟨rfl, hR8, hL8, hM8⟩
      rw [HX.out]
      have HR8 := Lib.hid hR8
      have HL8 := Lib.hid hL8
      have HM8 := Lib.hid (HM.out.trans hM8)
      clear hR8 hL8 hM8
      go_wp2_with fail
      go_roundw
      case rel => exact ⟨i + 1, _, _, by go_num, by omega, HR8.out, HL8.out, HM8.out⟩
      case measure => simp [intOf]; omega
    · go_wp2_with fail
      go_ret
      exact ⟨rfl, HM7.out.step HM.out (by have := HG.out; simp; omega)⟩

end Go.Proofs.Ytkfikpfllhfodaa
