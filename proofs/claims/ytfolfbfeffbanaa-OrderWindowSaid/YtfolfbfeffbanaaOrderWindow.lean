/-
  The walk of the law OrderWindow.
-/
import Derived.Test.YtfolfbfeffbanaaOrdA
import Derived.Test.YtfolfbfeffbanaaDeskC
namespace Go.Proofs.Ytfolfbfeffbanaa
open Go.RowKit

/-- n messages of k, numbered from 1. -/
def winL (k : Int) (n : Nat) : List M := (List.range n).map fun (j : Nat) => ((k, (j : Int) + 1, ⟨#[120]⟩) : M)
theorem winL_length (k : Int) (n : Nat) : (winL k n).length = n := by simp [winL]
theorem winL_succ (k : Int) (n : Nat) : winL k n ++ [(k, (n : Int) + 1, ⟨#[120]⟩)] = winL k (n + 1) := by simp [winL, List.range_succ]

theorem send_bad {w : World} {d : Nat} {me num er : Int} {L : List M} {t : ByteArray} (he : sendErr num L.length t = er) (h0 : er ≠ 0) {e : Ending} {w' : World} (h : SendPost w d me num L t e w') :
    e = .returned (.tuple #[.agg #[.int .i64 0, .int .u64 0, .string ⟨#[]⟩], .int .i64 er]) ∧ Mod [d] w w' ∧ DeskAt w' d me num L := by
  obtain ⟨h1, h2, h3⟩ := h
  rw [he, if_neg h0] at h1
  rw [he, if_neg h0, if_neg h0] at h3
  exact ⟨h1, h2, h3⟩
theorem send_good {w : World} {d : Nat} {me num : Int} {L : List M} {t : ByteArray} (he : sendErr num L.length t = 0) {e : Ending} {w' : World} (h : SendPost w d me num L t e w') :
    e = .returned (.tuple #[.agg #[.int .i64 me, .int .u64 (num + 1), .string t], .int .i64 0]) ∧ Mod [d] w w' ∧ DeskAt w' d me (num + 1) (L ++ [(me, num + 1, t)]) := by
  obtain ⟨h1, h2, h3⟩ := h
  rw [he, if_pos rfl] at h1
  rw [he, if_pos rfl, if_pos rfl] at h3
  exact ⟨h1, h2, h3⟩

def WinRel (w0 : World) (d n : Nat) (k : Int) (v : Value) (wr : World) : Prop :=
  ∃ (i : Nat), v = .int .i64 i ∧ i ≤ n ∧ DeskAt wr d k (min i 8 : Nat) (winL k (min i 8)) ∧ Mod [] w0 wr

theorem seen_no {w : World} {d : Nat} {me num : Int} {L : List M} {m : M} (hs : seenOk me L m = false) {e : Ending} {w' : World} (h : SeenPost w d me num L m e w') :
    e = .returned (.bool false) ∧ Mod [d] w w' ∧ DeskAt w' d me num L := by
  obtain ⟨h1, h2, h3⟩ := h
  rw [hs] at h1 h3
  exact ⟨h1, h2, h3⟩
theorem seen_yes {w : World} {d : Nat} {me num : Int} {L : List M} {m : M} (hs : seenOk me L m = true) {e : Ending} {w' : World} (h : SeenPost w d me num L m e w') :
    e = .returned (.bool true) ∧ Mod [d] w w' ∧ DeskAt w' d me num L.tail := by
  obtain ⟨h1, h2, h3⟩ := h
  rw [hs] at h1 h3
  exact ⟨h1, h2, h3⟩

theorem dnum_at (d : Nat) (me num : Int) (L : List M) (w : World) (h : DeskAt w d me num L) :
    Calls Try.prog 8 #[.pointer (some ⟨d, 0, none⟩)] w fun e w' => e = .returned (.int .u64 num) ∧ w = w' := by
  obtain ⟨head, r, hr, _⟩ := h
  exact dnum_any d me num head _ r w hr

theorem winL_head (k : Int) (n : Nat) (h : 0 < n) : ∃ L, winL k n = (k, 1, ⟨#[120]⟩) :: L ∧ L.length + 1 = n := by
  cases n with
  | zero => omega
  | succ n => exact ⟨_, by simp [winL, List.range_succ_eq_map]; rfl, by simp⟩

theorem seen_two (k : Int) (n : Nat) (t : ByteArray) : seenOk k (winL k n) (k, 2, t) = false := by
  rcases Nat.eq_zero_or_pos n with rfl | h
  · rfl
  · obtain ⟨L, e, _⟩ := winL_head k n h
    rw [e]
    simp [seenOk]
theorem seen_other (k k2 : Int) (n : Nat) (t : ByteArray) (h : k2 ≠ k) : seenOk k (winL k n) (k2, 1, t) = false := by
  rcases Nat.eq_zero_or_pos n with rfl | h'
  · rfl
  · obtain ⟨L, e, _⟩ := winL_head k n h'
    rw [e]
    simp [seenOk, h]
theorem seen_first (k : Int) (n : Nat) (t : ByteArray) (h : 0 < n) : seenOk k (winL k n) (k, 1, t) = true := by
  obtain ⟨L, e, _⟩ := winL_head k n h
  rw [e]
  simp [seenOk]

set_option maxRecDepth 100000 in
set_option maxHeartbeats 8000000 in
theorem walk_OrderWindow (w : World) (me : Int) (me0 : 0 ≤ me) (me1 : me ≤ 255) (many : Int) (many0 : 0 ≤ many) (many1 : many ≤ 255) :
    Calls Try.prog 3 #[.int .u8 me, .int .u8 many] w (TruePost w) := by
  obtain ⟨k, hk⟩ : ∃ k, me.tmod 64 = k := ⟨_, rfl⟩
  have hkr : 0 ≤ k ∧ k < 64 := by rw [Int.tmod_eq_emod_of_nonneg me0] at hk; omega
  obtain ⟨hk0, hk1⟩ := hkr
  obtain ⟨k2, hk2⟩ : ∃ k2, (k + 1).tmod 64 = k2 := ⟨_, rfl⟩
  have hw1 : wrap64 (k + 1) = k + 1 := wrap_small (by omega) (by omega)
  have hne : k2 ≠ k := by rw [Int.tmod_eq_emod_of_nonneg (by omega)] at hk2; omega
  obtain ⟨n, hn⟩ : ∃ n : Nat, many = (n : Int) := ⟨many.toNat, by omega⟩
  subst hn
  obtain ⟨q, hq⟩ : ∃ q : Nat, min n 8 = q := ⟨_, rfl⟩
  have hqm : min (n : Int) 8 = (q : Int) := by omega
  have hnode : isNode k = true := by simp [isNode]; omega
  have HND := Lib.hid hnode
  have HQ := Lib.hid hq
  have HNE := Lib.hid hne
  clear hnode hne
  go_enter Try.func3, Try.ntmps3
  go_wp2_with fail
  refine (newdesk_any k 0 _ HND.out (by decide) (by decide)).mono ?_
  rintro e w1 ⟨d, rfl, hd, hD, hM⟩
  have HD1 := Lib.hid hD
  have HM1 := Lib.hid hM
  have HDD := Lib.hid hd
  clear hD hM hd
  go_wp2_with fail
  refine (shown18 _).mono ?_
  rintro e w2 ⟨rfl, hM⟩
  have HD2 := Lib.hid (HD1.out.mod hM (by simp))
  have HM2 := Lib.hid (HM1.out.trans hM)
  clear hM
  go_wp2_with fail
  go_loopw [7] (fun v wr => WinRel w d n k v wr) (fun v _ => n - (intOf v).toNat)
  case atStart => exact ⟨0, rfl, Nat.zero_le _, HD2.out, HM2.out⟩
  case round =>
    obtain ⟨i, rfl, hi, hDr, hMr⟩ := hrel
    have HDr := Lib.hid hDr
    have HMr := Lib.hid hMr
    clear hDr hMr
    by_cases hlt : (i : Int) < n
    · by_cases h8 : (i : Int) < 8
      · have hmi : min i 8 = i := by omega
        have hmi2 : min (i + 1) 8 = i + 1 := by omega
        have herr : sendErr ((min i 8 : Nat) : Int) (winL k (min i 8)).length ⟨#[120]⟩ = 0 := by
          unfold sendErr
          rw [winL_length, if_neg (by decide), if_neg (by omega), if_neg (by omega)]
        have HE := Lib.hid herr
        have HMI := Lib.hid (And.intro hmi hmi2)
        clear herr hmi hmi2
        go_wp2_with fail
        refine (send_any d k _ _ ⟨#[120]⟩ _ HDr.out (by decide)).mono ?_
        rintro e w3 hp
        obtain ⟨rfl, hM3, hD3⟩ := send_good HE.out hp
        rw [HMI.out.1] at hD3 ⊢
        rw [winL_succ] at hD3
        have HD3 := Lib.hid hD3
        have HM3 := Lib.hid (HMr.out.step hM3 (by simpa using HDD.out))
        have hi1 : ((i : Int) + 1) % 18446744073709551616 = (i : Int) + 1 := by omega
        have hi2 : (i : Int) % 18446744073709551616 = (i : Int) := by omega
        have hii : ((i : Int) + 1 != (i : Int) + 1) = false := by simp
        clear hp hM3 hD3
        go_wp2_with fail
        go_roundw
        case rel => exact ⟨i + 1, by go_num, by omega, by rw [HMI.out.2]; exact HD3.out.mod ((Mod.refl [] _).alloc _) (by simp), HM3.out.alloc _⟩
        case measure => simp [intOf]; omega
      · have hmi : min i 8 = 8 := by omega
        have hmi2 : min (i + 1) 8 = 8 := by omega
        have herr : sendErr ((min i 8 : Nat) : Int) (winL k (min i 8)).length ⟨#[120]⟩ = 180 := by
          unfold sendErr
          rw [winL_length, if_neg (by decide), if_pos (by omega)]
        have HE := Lib.hid herr
        have HMI := Lib.hid (And.intro hmi hmi2)
        clear herr hmi hmi2
        go_wp2_with fail
        refine (send_any d k _ _ ⟨#[120]⟩ _ HDr.out (by decide)).mono ?_
        rintro e w3 hp
        obtain ⟨rfl, hM3, hD3⟩ := send_bad HE.out (by decide) hp
        have HD3 := Lib.hid hD3
        have HM3 := Lib.hid (HMr.out.step hM3 (by simpa using HDD.out))
        clear hp hM3 hD3
        go_wp2_with fail
        go_roundw
        case rel => exact ⟨i + 1, by go_num, by omega, by rw [HMI.out.2, ← HMI.out.1]; exact HD3.out.mod ((Mod.refl [] _).alloc _) (by simp), HM3.out.alloc _⟩
        case measure => simp [intOf]; omega
    · obtain rfl : i = n := by omega
      have HD3 := Lib.hid (show DeskAt wr d k q (winL k q) by rw [← HQ.out]; exact HDr.out)
      clear HD1 HD2 HM1 HM2 HDr
      have hq8 : q ≤ 8 := by have := HQ.out; omega
      clear hqm HQ
      by_cases hm : (i : Int) ≤ 8
      · obtain rfl : i = q := by omega
        clear hq
        have hqu : (i : Int) % 18446744073709551616 = (i : Int) := by omega
        have hqq : ((i : Int) != (i : Int)) = false := by simp
        go_wp2_with fail
        refine (waits_any d k _ (winL k i) 99 i _ HD3.out (by rw [winL_length]; omega)).mono ?_
        rintro e w4 ⟨v, rfl, hO, hM⟩
        obtain ⟨a, c, hv, _⟩ := hO.shape
        rw [List.take_of_length_le (by rw [winL_length]; omega), winL_length] at hv
        subst hv
        have HD4 := Lib.hid (HD3.out.mod hM (by simp))
        have HM4 := Lib.hid (HMr.out.trans hM)
        clear hO hM
        go_wp2_with fail
        refine (dnum_at d k _ _ _ HD4.out).mono ?_
        rintro e w5 ⟨rfl, rfl⟩
        go_wp2_with fail
        refine (seen_any d k _ _ (k, 2, ⟨#[]⟩) _ HD4.out).mono ?_
        rintro e w5 hp
        obtain ⟨rfl, hM, hD⟩ := seen_no (seen_two k i _) hp
        have HD5 := Lib.hid hD
        have HM5 := Lib.hid (HM4.out.step hM (by simpa using HDD.out))
        clear hp hM hD
        go_wp2_with fail
        refine (seen_any d k _ _ (k2, 1, ⟨#[]⟩) _ HD5.out).mono ?_
        rintro e w6 hp
        obtain ⟨rfl, hM, hD⟩ := seen_no (seen_other k k2 i _ HNE.out) hp
        have HD6 := Lib.hid hD
        have HM6 := Lib.hid (HM5.out.step hM (by simpa using HDD.out))
        clear hp hM hD
        go_wp2_with fail
        refine (seen_any d k _ _ (k, 1, ⟨#[]⟩) _ HD6.out).mono ?_
        rintro e w7 hp
        by_cases hpos : 0 < i
        · obtain ⟨rfl, hM, hD⟩ := seen_yes (seen_first k i _ hpos) hp
          have HD7 := Lib.hid hD
          have HM7 := Lib.hid (HM6.out.step hM (by simpa using HDD.out))
          clear hp hM hD
          have hpi : (0 : Int) < (i : Int) := by omega
          go_wp2_with fail
          refine (send_any d k _ _ ⟨#[121]⟩ _ HD7.out (by decide)).mono ?_
          rintro e w8 hp
          obtain ⟨rfl, hM, hD⟩ := send_good (by unfold sendErr; rw [List.length_tail, winL_length, if_neg (by decide), if_neg (by omega), if_neg (by omega)]) hp
          have HM8 := Lib.hid (HM7.out.step hM (by simpa using HDD.out))
          clear hp hM hD
          go_wp2_with fail
          go_ret
          exact ⟨rfl, HM8.out.alloc _⟩
        · obtain rfl : i = 0 := by omega
          obtain ⟨rfl, hM, hD⟩ := seen_no rfl hp
          have HD7 := Lib.hid hD
          have HM7 := Lib.hid (HM6.out.step hM (by simpa using HDD.out))
          clear hp hM hD
          go_wp2_with fail
          refine (send_any d k _ _ ⟨#[121]⟩ _ HD7.out (by decide)).mono ?_
          rintro e w8 hp
          obtain ⟨rfl, hM, hD⟩ := send_good (by unfold sendErr; rw [winL_length, if_neg (by decide), if_neg (by omega), if_neg (by omega)]) hp
          have HM8 := Lib.hid (HM7.out.step hM (by simpa using HDD.out))
          clear hp hM hD
          go_wp2_with fail
          go_ret
          exact ⟨rfl, HM8.out.alloc _⟩
      · obtain rfl : q = 8 := by omega
        clear hq
        go_wp2_with fail
        refine (waits_any d k _ (winL k 8) 99 8 _ HD3.out (by rw [winL_length]; omega)).mono ?_
        rintro e w4 ⟨v, rfl, hO, hM⟩
        obtain ⟨a, c, hv, _⟩ := hO.shape
        rw [List.take_of_length_le (by rw [winL_length]; omega), winL_length] at hv
        subst hv
        have HD4 := Lib.hid (HD3.out.mod hM (by simp))
        have HM4 := Lib.hid (HMr.out.trans hM)
        clear hO hM
        go_wp2_with fail
        refine (dnum_at d k _ _ _ HD4.out).mono ?_
        rintro e w5 ⟨rfl, rfl⟩
        go_wp2_with fail
        refine (seen_any d k _ _ (k, 2, ⟨#[]⟩) _ HD4.out).mono ?_
        rintro e w5 hp
        obtain ⟨rfl, hM, hD⟩ := seen_no (seen_two k 8 _) hp
        have HD5 := Lib.hid hD
        have HM5 := Lib.hid (HM4.out.step hM (by simpa using HDD.out))
        clear hp hM hD
        go_wp2_with fail
        refine (seen_any d k _ _ (k2, 1, ⟨#[]⟩) _ HD5.out).mono ?_
        rintro e w6 hp
        obtain ⟨rfl, hM, hD⟩ := seen_no (seen_other k k2 8 _ HNE.out) hp
        have HD6 := Lib.hid hD
        have HM6 := Lib.hid (HM5.out.step hM (by simpa using HDD.out))
        clear hp hM hD
        go_wp2_with fail
        refine (seen_any d k _ _ (k, 1, ⟨#[]⟩) _ HD6.out).mono ?_
        rintro e w7 hp
        by_cases hpos : 0 < 8
        · obtain ⟨rfl, hM, hD⟩ := seen_yes (seen_first k 8 _ hpos) hp
          have HD7 := Lib.hid hD
          have HM7 := Lib.hid (HM6.out.step hM (by simpa using HDD.out))
          clear hp hM hD
          have hpi : (0 : Int) < (8 : Int) := by omega
          go_wp2_with fail
          refine (send_any d k _ _ ⟨#[121]⟩ _ HD7.out (by decide)).mono ?_
          rintro e w8 hp
          obtain ⟨rfl, hM, hD⟩ := send_good (by unfold sendErr; rw [List.length_tail, winL_length, if_neg (by decide), if_neg (by omega), if_neg (by omega)]) hp
          have HM8 := Lib.hid (HM7.out.step hM (by simpa using HDD.out))
          clear hp hM hD
          go_wp2_with fail
          go_ret
          exact ⟨rfl, HM8.out.alloc _⟩
        · exact absurd (by decide) hpos

end Go.Proofs.Ytfolfbfeffbanaa
