/-
  The walks of package shelf: Reach, Trim by one.
-/
import Derived.Test.YtpbamamplmbgjaaGreatDoorTopP
namespace Go.Proofs.YtpbamamplmbgjaaGreatDoor
set_option linter.unusedSimpArgs false
set_option linter.unusedVariables false
open Go.RowKit

set_option maxHeartbeats 2000000 in
theorem sreach_any (s : Nat) (low : Int) (r : Nat → P) (N : Int) (w : World) (h : ShelfRaw w s low r) (hN : low ≤ N) (hM : N < 18446744073709551615) (hall : ∀ m, low < m → m ≤ N → hasP low r m = true) (hend : hasP low r (N + 1) = false) :
    Calls Tryz.prog 212 #[.pointer (some ⟨s, 0, none⟩)] w fun e w' => e = .returned (.int .u64 N) ∧ w' = w := by
  have H := Lib.hid h
  have HA := Lib.hid hall
  have HE := Lib.hid hend
  have c256 := h.c256
  have hl0 := h.l0
  clear h hall hend
  go_enter Tryz.func212, Tryz.ntmps212
  go_wp2_with fail
  go_loopw [3] (fun u wr => ∃ j : Int, u = .int .u64 j ∧ low ≤ j ∧ j ≤ N ∧ wr = w) (fun u _ => (N - intOf u).toNat)
  case atStart => exact ⟨low, rfl, Int.le_refl _, hN, rfl⟩
  case round =>
    obtain ⟨j, rfl, hj0, hj1, rfl⟩ := hrel
    have hm : (j + 1) % 18446744073709551616 = j + 1 := by omega
    have hb0 : 0 ≤ j + 1 := by omega
    have hb1 : j + 1 ≤ 18446744073709551615 := by omega
    by_cases hlt : j < N
    · have hv := HA.out (j + 1) (by omega) (by omega)
      have HV := Lib.hid hv
      clear hv
      go_wp2_with (go_at_call 270; refine (shas_any s low r (j + 1) _ H.out hb0 hb1).mono ?_; rintro e w1 ⟨rfl, rfl⟩; rw [HV.out])
      go_roundw
      case rel => exact ⟨j + 1, by go_num, by omega, by omega, by trivial⟩
      case measure => simp [intOf]; omega
    · obtain rfl : j = N := by omega
      go_wp2_with (go_at_call 270; refine (shas_any s low r (j + 1) _ H.out hb0 hb1).mono ?_; rintro e w1 ⟨rfl, rfl⟩; rw [HE.out])
      go_ret
      exact ⟨rfl, rfl⟩

def lowOf (w : World) (s : Nat) : Int := match w.cell? ⟨s, 256, none⟩ with | some v => intOf v | none => 0

theorem lowOf_at {w : World} {s : Nat} {low : Int} {r : Nat → P} (h : ShelfRaw w s low r) : lowOf w s = low := by
  unfold lowOf
  rw [h.c256]
  rfl

/-- The shelf behind a step of Trim. -/
def TrimRel (w : World) (s : Nat) (low : Int) (r : Nat → P) (k : Nat) (wr : World) : Prop :=
  (ShelfRaw wr s low r ∧ w = wr) ∨ (ShelfRaw wr s (low + 1) (putP r k p0) ∧ Mod [s] w wr)

set_option maxRecDepth 100000 in
set_option maxHeartbeats 4000000 in
theorem strim_one (s : Nat) (low : Int) (r : Nat → P) (N : Int) (w : World) (h : ShelfRaw w s low r) (hN : low < N) (hM : N < 18446744073709551615) (hall : ∀ m, low < m → m ≤ N → hasP low r m = true) (hend : hasP low r (N + 1) = false) :
    Calls Tryz.prog 261 #[.pointer (some ⟨s, 0, none⟩), .int .u64 (low + 1)] w fun e w' => e = .returned (.int .i64 0) ∧ ShelfRaw w' s (low + 1) (putP r ((low + 1).toNat % 64) p0) ∧ Mod [s] w w' := by
  obtain ⟨k, hk⟩ : ∃ k, (low + 1).toNat % 64 = k := ⟨_, rfl⟩
  rw [hk]
  have hk8 : k < 64 := by omega
  have hl0 := h.l0
  have hd : decide (N < low + 1) = false := by simp; omega
  have hm : (low + 1) % 18446744073709551616 = low + 1 := by omega
  have hb0 : 0 ≤ low + 1 := by omega
  have hb1 : low + 1 ≤ 18446744073709551615 := by omega
  have H := Lib.hid h
  have HK := Lib.hid hk
  have HR := Lib.hid (sreach_any s low r N w h (by omega) hM hall hend)
  clear h hk hall hend
  go_enter Tryz.func261, Tryz.ntmps261
  go_wp2_with (go_at_call 212; refine HR.out.mono ?_; rintro e w1 ⟨rfl, rfl⟩)
  go_loopw [] (fun wr => TrimRel w1 s low r k wr) (fun wr => (low + 1 - lowOf wr s).toNat)
  case atStart => exact .inl ⟨H.out, rfl⟩
  case round =>
    rename_i wr

    rcases hrel with ⟨hs, rfl⟩ | ⟨hs, hmod⟩
    · have c256 := hs.c256
      have q256 := (hs.free 256 (by omega)).2
      rw [Nat.zero_add] at q256
      have hd2 : decide (low < low + 1) = true := by simp; omega
      have hs2 := hs.setLow (low + 1) hb0 hb1
      have HM2 := Lib.hid ((Mod.refl [s] w1).setCell (p := ⟨s, 256, none⟩) (.inl (by simp)) (.int .u64 (low + 1)))
      have HS0 := Lib.hid hs
      clear hs
      go_upto_region 5 with fail
      clear q256
      generalize w1.setCell ⟨s, 256, none⟩ (.int .u64 (low + 1)) = W2 at hs2 HM2 ⊢
      have HS2 := Lib.hid hs2
      clear c256
      have c256 := hs2.c256
      have s0 : W2.cell? ⟨s, k * 4, none⟩ = some (.int .u64 (r k).1) := hs2.ring k hk8 0 _ rfl
      have s1 : W2.cell? ⟨s, k * 4 + 1, none⟩ = some (.int .i64 (r k).2.1) := hs2.ring k hk8 1 _ rfl
      have s2 : W2.cell? ⟨s, k * 4 + 2, none⟩ = some (.int .u64 (r k).2.2.1) := hs2.ring k hk8 2 _ rfl
      have s3 : W2.cell? ⟨s, k * 4 + 3, none⟩ = some (.string (r k).2.2.2) := hs2.ring k hk8 3 _ rfl
      have q0 := (hs2.free (k * 4) (by omega)).2
      have q1 := (hs2.free (k * 4 + 1) (by omega)).2
      have q2 := (hs2.free (k * 4 + 2) (by omega)).2
      have q3 := (hs2.free (k * 4 + 3) (by omega)).2
      rw [Nat.zero_add] at q0 q1 q2 q3
      have FIN := Lib.hid (hs2.setP k hk8 p0)
      clear hs2
      go_wp2_with (go_at_call 299; refine (sat_any s (low + 1) r (low + 1) _ HS2.out hb0 hb1 k HK.out).mono ?_; rintro e w1 ⟨rfl, rfl⟩)
      go_roundw
      case rel => exact .inr ⟨FIN.out, (((HM2.out.setCell (.inl (by simp)) _).setCell (.inl (by simp)) _).setCell (.inl (by simp)) _).setCell (.inl (by simp)) _⟩
      case measure =>
        have e1 := lowOf_at FIN.out
        have e2 := lowOf_at HS0.out
        simp only [p0, m0] at e1
        rw [e2]
        exact Nat.lt_of_le_of_lt (Nat.le_of_eq (congrArg (fun x => (low + 1 - x).toNat) e1)) (by show (low + 1 - (low + 1)).toNat < (low + 1 - low).toNat; omega)
    · have c256 := hs.c256
      have HS := Lib.hid hs
      have HMM := Lib.hid hmod
      have hd2 : decide (low + 1 < low + 1) = false := by simp
      clear hs hmod
      go_wp2_with fail
      go_ret
      exact ⟨rfl, HS.out, HMM.out⟩

end Go.Proofs.YtpbamamplmbgjaaGreatDoor
