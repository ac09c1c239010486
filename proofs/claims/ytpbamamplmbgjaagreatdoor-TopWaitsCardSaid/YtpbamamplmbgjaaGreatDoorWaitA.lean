/-
  The walks of real.Ticks, Clean, Wait: what they give hangs on their arguments alone.
-/
import Derived.Test.YtpbamamplmbgjaaGreatDoorBase
import Derived.Laws.FloatArith
import Derived.Test.YtpbamamplmbgjaaGreatDoorTopE
import Derived.Laws.Externs
import Derived.WalkLawsBesides
import Derived.Lib.Tables
namespace Go.Proofs.YtpbamamplmbgjaaGreatDoor
set_option linter.unusedSimpArgs false
set_option linter.unusedVariables false
open Go.RowKit

/-! Floats, plain: a whole number comes back from its word; ceilings below 2 ^ 40. -/
theorem dbl_least : Ieee.double.leastPlace = -1074 := by simp [Ieee.Format.leastPlace, Ieee.double]
theorem dbl_bin : Ieee.double.binade = 4503599627370496 := by simp [Ieee.Format.binade, Ieee.double]
theorem dbl_inf : Ieee.double.infRung = 2047 * 4503599627370496 := by simp [Ieee.Format.infRung, Ieee.Format.binade, Ieee.double]
theorem dbl_sign : Ieee.double.signWeight = 2048 * 4503599627370496 := by simp [Ieee.Format.signWeight, Ieee.double]
theorem dbl_frac : Ieee.double.fractionBits = 52 := rfl

/-- A word of the exponent's field l + 1023, its fraction with the hidden one K. -/
theorem word_parts (l K B : Nat) (hl : l ≤ 40) (h1 : B ≤ K) (h2 : K < 2 * B) : min ((l + 1022) * B + K) (2047 * B) = (l + 1022) * B + K ∧ ((l + 1022) * B + K) / (2048 * B) = 0 ∧ ((l + 1022) * B + K) % (2048 * B) = (l + 1022) * B + K ∧
    ((l + 1022) * B + K) % B = K - B ∧ ((l + 1022) * B + K) / B = l + 1023 ∧ ¬ (l + 1022) * B + K < B ∧ (l + 1022) * B + K < 2047 * B := by
  have hB : 0 < B := by omega
  have e := Nat.mul_le_mul_right B (show l + 1022 ≤ 1062 by omega)
  have hlt : (l + 1022) * B + K < 2047 * B := by omega
  have hlt2 : (l + 1022) * B + K < 2048 * B := by omega
  obtain ⟨r, hr⟩ : ∃ r, K = B + r := ⟨K - B, by omega⟩
  have e2 : (l + 1022) * B + K = r + B * (l + 1023) := by
    rw [hr, Nat.mul_comm B (l + 1023), show l + 1023 = (l + 1022) + 1 from rfl, Nat.add_mul (l + 1022) 1 B, Nat.one_mul]
    omega
  refine ⟨Nat.min_eq_left (Nat.le_of_lt hlt), Nat.div_eq_of_lt hlt2, Nat.mod_eq_of_lt hlt2, ?_, ?_, by omega, hlt⟩
  · rw [e2, Nat.add_mul_mod_self_left, Nat.mod_eq_of_lt (by omega)]
    omega
  · rw [e2, Nat.add_mul_div_left _ _ hB, Nat.div_eq_of_lt (by omega), Nat.zero_add]

theorem log2_40 {k : Nat} (hk : k ≤ 1099511627776) : k.log2 ≤ 40 := by
  by_cases h0 : k = 0
  · subst h0; decide
  · have := (Nat.log2_lt h0 (k := 41)).2 (by simp; omega)
    omega

theorem cut_none (way : Ieee.Toward) (neg : Bool) (n : Nat) : way.cut neg n 0 = n := by
  unfold Ieee.Toward.cut
  cases way <;> simp [Nat.mod_one]

set_option maxRecDepth 10000 in
set_option maxHeartbeats 1000000 in
theorem ceil_back (k : Nat) (hk : k ≤ 1099511627776) : (FloatKind.f64.decode (FloatKind.f64.encode (.number false k 0))).toInt .zero = some (k : Int) := by
  by_cases h0 : k = 0
  · subst h0; decide +kernel
  have hl := log2_40 hk
  obtain ⟨d, hd⟩ : ∃ d, d + k.log2 = 52 := ⟨52 - k.log2, by omega⟩
  have h1 : 2 ^ k.log2 ≤ k := Nat.log2_self_le h0
  have h2 : k < 2 ^ (k.log2 + 1) := Nat.lt_log2_self
  obtain ⟨K, hK⟩ : ∃ K, k * 2 ^ d = K := ⟨_, rfl⟩
  have hK1 : 4503599627370496 ≤ K := by
    have e : 2 ^ k.log2 * 2 ^ d = 4503599627370496 := by rw [← Nat.pow_add, Nat.add_comm, hd]
    rw [← hK, ← e]
    exact Nat.mul_le_mul_right _ h1
  have hK2 : K < 9007199254740992 := by
    have : K < 2 ^ (k.log2 + 1) * 2 ^ d := by rw [← hK]; exact Nat.mul_lt_mul_of_pos_right h2 (Nat.two_pow_pos d)
    rw [← Nat.pow_add] at this
    have e : k.log2 + 1 + d = 53 := by omega
    rw [e] at this
    simpa using this
  obtain ⟨w1, w2, w3, w4, w5, w6, w7⟩ := word_parts k.log2 K 4503599627370496 hl hK1 (by omega)
  have enc : FloatKind.f64.encode (.number false k 0) = (k.log2 + 1022) * 4503599627370496 + K := by
    show Ieee.double.nearest false k 0 = _
    unfold Ieee.Format.nearest
    rw [if_neg h0]
    have hlast : max ((0 : Int) + (k.log2 : Nat) - (Ieee.double.fractionBits : Nat)) Ieee.double.leastPlace = (k.log2 : Int) - 52 := by
      rw [dbl_frac, dbl_least]
      omega
    simp only [hlast]
    have e3 : ((0 : Int) - ((k.log2 : Int) - 52)).toNat = d := by omega
    have e4 : ((k.log2 : Int) - 52 - 0).toNat = 0 := by omega
    have e5 : ((k.log2 : Int) - 52 - Ieee.double.leastPlace).toNat = k.log2 + 1022 := by
      rw [dbl_least]
      omega
    rw [e3, e4, e5, cut_none, Nat.shiftLeft_eq, hK]
    rw [dbl_bin, dbl_inf]
    unfold Ieee.Format.word
    simp only [Bool.false_eq_true, if_false]
    exact w1
  rw [enc]
  have dec : FloatKind.f64.decode ((k.log2 + 1022) * 4503599627370496 + K) = .number false K ((k.log2 : Int) - 52) := by
    show Ieee.double.read _ = _
    unfold Ieee.Format.read
    simp only [dbl_bin, dbl_inf, dbl_sign, dbl_least]
    rw [w2, w3, if_neg w6, if_pos w7, w4, w5]
    have a1 : 4503599627370496 + (K - 4503599627370496) = K := Nat.add_sub_cancel' hK1
    have a2 : (-1074 : Int) + ((k.log2 + 1023 - 1 : Nat) : Int) = (k.log2 : Int) - 52 := by omega
    rw [a1, a2]
    rfl
  rw [dec]
  unfold Ieee.Datum.toInt Ieee.Datum.integral
  have e1 : ((k.log2 : Int) - 52).toNat = 0 := by omega
  have e2 : (-((k.log2 : Int) - 52)).toNat = d := by omega
  have hlogK : K.log2 = 52 := by
    have a1 : K ≠ 0 := by omega
    have a2 := (Nat.log2_lt a1 (k := 53)).2 (by simpa using hK2)
    have a3 : ¬ K.log2 < 52 := fun h => by
      have := (Nat.log2_lt a1 (k := 52)).1 h
      simp at this
      omega
    omega
  simp only [e1, e2, Nat.shiftLeft_zero]
  have hcut : Ieee.Toward.zero.cut false K d = k := by
    unfold Ieee.Toward.cut
    rw [hlogK, Nat.min_eq_left (by omega)]
    simp only [Nat.one_shiftLeft, Bool.toNat_false, Nat.add_zero]
    rw [← hK]
    exact Nat.mul_div_cancel _ (Nat.two_pow_pos d)
  rw [hcut]
  simp [Ieee.signed]

theorem cut_up_le (m d : Nat) (h : m < 1099511627776 * 2 ^ d) : Ieee.Toward.up.cut false m d ≤ 1099511627776 := by
  unfold Ieee.Toward.cut
  simp only [Nat.one_shiftLeft]
  have hb : ∀ b : Bool, b.toNat ≤ 1 := fun b => by cases b <;> decide
  by_cases hd : d ≤ m.log2 + 2
  · rw [Nat.min_eq_left hd]
    have h1 : m / 2 ^ d < 1099511627776 := (Nat.div_lt_iff_lt_mul (Nat.two_pow_pos d)).2 h
    have := hb (!false && m % 2 ^ d != 0)
    omega
  · rw [Nat.min_eq_right (by omega)]
    have h2 : m / 2 ^ (m.log2 + 2) = 0 := by
      apply Nat.div_eq_of_lt
      by_cases h0 : m = 0
      · rw [h0]; exact Nat.two_pow_pos _
      · exact (Nat.log2_lt h0).1 (by omega)
    have := hb (!false && m % 2 ^ (m.log2 + 2) != 0)
    omega

theorem read_zero : Ieee.double.read 0 = .number false 0 (-1074) := by decide +kernel
theorem read_t40 : Ieee.double.read 4787326403894837248 = .number false 4503599627370496 (-12) := by decide +kernel
theorem compare_gt {a b : Int} (h : compare a b = .gt) : b < a := by rwa [Int.compare_eq_gt] at h
theorem compare_lt {a b : Int} (h : compare a b = .lt) : a < b := by rwa [Int.compare_eq_lt] at h

/-- A float above 0 and below 2 ^ 40: its ceiling. -/
theorem ceil_of {G : Nat} (h0 : Ieee.double.order G 0 = some .gt) (h1 : Ieee.double.order G 4787326403894837248 = some .lt) :
    ∃ (k m : Nat) (p : Int), k ≤ 1099511627776 ∧ Ieee.double.read G = .number false m p ∧ (Ieee.double.read G).integral .up = .number false k 0 := by
  unfold Ieee.Format.order at h0 h1
  rw [read_zero] at h0
  rw [read_t40] at h1
  cases hG : Ieee.double.read G with
  | nan s t => rw [hG] at h0; simp [Ieee.Datum.order] at h0
  | infinity s =>
    rw [hG] at h0 h1
    cases s <;> simp [Ieee.Datum.order] at h0 h1
  | number s m p =>
    rw [hG] at h0 h1
    simp only [Ieee.Datum.order, Option.some.injEq] at h0 h1
    have g0 := compare_gt h0
    have g1 := compare_lt h1
    have hs : s = false := by
      cases s
      · rfl
      · simp only [Ieee.signed, if_true, Bool.false_eq_true, if_false, Nat.zero_shiftLeft] at g0
        generalize m <<< (p - min p (-1074)).toNat = x at g0
        omega
    subst hs
    simp only [Ieee.signed, Bool.false_eq_true, if_false, Nat.shiftLeft_eq] at g1
    refine ⟨_, m, p, ?_, rfl, rfl⟩
    apply cut_up_le
    rw [Nat.shiftLeft_eq]
    by_cases hp : 0 ≤ p
    · have e1 : (p - min p (-12)).toNat = p.toNat + 12 := by omega
      have e2 : (-12 - min p (-12)).toNat = 0 := by omega
      have e3 : (-p).toNat = 0 := by omega
      rw [e1, e2, Nat.pow_add] at g1
      rw [e3]
      have g2 : m * (2 ^ p.toNat * 2 ^ 12) < 4503599627370496 * 2 ^ 0 := by exact_mod_cast g1
      rw [← Nat.mul_assoc] at g2
      generalize m * 2 ^ p.toNat = x at g2 ⊢
      omega
    · have e3 : p.toNat = 0 := by omega
      rw [e3, Nat.pow_zero, Nat.mul_one]
      by_cases hq : -12 ≤ p
      · obtain ⟨d, hd⟩ : ∃ d : Nat, (-p).toNat = d := ⟨_, rfl⟩
        have e1 : (p - min p (-12)).toNat = 12 - d := by omega
        have e2 : (-12 - min p (-12)).toNat = 0 := by omega
        rw [e1, e2] at g1
        rw [hd]
        have g2 : m * 2 ^ (12 - d) < 4503599627370496 := by
          have : m * 2 ^ (12 - d) < 4503599627370496 * 2 ^ 0 := by exact_mod_cast g1
          simpa using this
        have e4 : 2 ^ (12 - d) * 2 ^ d = 4096 := by
          rw [← Nat.pow_add]
          have : 12 - d + d = 12 := by omega
          rw [this]
        have h3 : 0 < 2 ^ d := Nat.two_pow_pos d
        have h4 : m * 2 ^ (12 - d) * 2 ^ d < 4503599627370496 * 2 ^ d := Nat.mul_lt_mul_of_pos_right g2 h3
        rw [Nat.mul_assoc, e4] at h4
        generalize 2 ^ d = y at h4 ⊢
        omega
      · obtain ⟨d, hd⟩ : ∃ d : Nat, (-p).toNat = d + 12 := ⟨(-p).toNat - 12, by omega⟩
        have e1 : (p - min p (-12)).toNat = 0 := by omega
        have e2 : (-12 - min p (-12)).toNat = d := by omega
        rw [e1, e2] at g1
        rw [hd, Nat.pow_add]
        have g2 : m < 4503599627370496 * 2 ^ d := by
          have : m * 2 ^ 0 < 4503599627370496 * 2 ^ d := by exact_mod_cast g1
          simpa using this
        generalize 2 ^ d = y at g2 ⊢
        omega

theorem run_fcmp {P : Program} (op : BinOp) (t : TypeId) (x y : Nat) (b : Bool) (w : World) (h : (Op.floatCmp op .f64 x y : Sem Value) = pure (.bool b)) (hop : op = .lss ∨ op = .leq ∨ op = .gtr ∨ op = .geq ∨ op = .eql ∨ op = .neq) : (binOp op t (.float .f64 x) (.float .f64 y)).run P w = .ok (.bool b) w := by
  rcases hop with rfl | rfl | rfl | rfl | rfl | rfl <;> simp_all [binOp, Op.floatCmp]

theorem toIntegral_form (name : String) (way : Ieee.Toward) (G : Nat) (s : Bool) (m : Nat) (p : Int) (h : FloatKind.f64.decode G = .number s m p) :
    Extern.MathFloor.toIntegral name way #[.float .f64 G] = pure (.float .f64 (FloatKind.f64.encode (Ieee.Datum.integral way (.number s m p)))) := by
  have key : ∀ d, FloatKind.f64.decode G = d → Extern.MathFloor.toIntegral name way #[.float .f64 G] = (match d with
      | .nan s t => if FloatKind.f64.format.quiet t = t then pure (.float .f64 G) else do
          let kept ← choose (.extern "math.Floor,Ceil,Trunc,RoundToEven.signallingNaN kept" 2)
          pure (.float .f64 (if kept == 1 then G else FloatKind.f64.encode (.nan s (FloatKind.f64.format.quiet t))))
      | d => pure (.float .f64 (FloatKind.f64.encode (d.integral way)))) := by
    intro d hd
    subst hd
    rfl
  rw [key _ h]

theorem ceil_run (G : Nat) (k m : Nat) (p : Int) (hr : Ieee.double.read G = .number false m p) (hi : (Ieee.double.read G).integral .up = .number false k 0) (w : World) :
    (callFunc 107 #[.float .f64 G]).run Tryz.prog w = .ok (.value (.float .f64 (FloatKind.f64.encode (.number false k 0)))) w := by
  rw [run_callFunc_extern (e := Extern.MathFloor.toIntegral "math.archCeil" .up) Tryz.func107 (by kernel_rfl) (by kernel_rfl) (by kernel_rfl) (by kernel_rfl)]
  have hd : FloatKind.f64.decode G = .number false m p := hr
  have hi2 : Ieee.Datum.integral .up (.number false m p) = .number false k 0 := by rw [← hr]; exact hi
  rw [toIntegral_form "math.archCeil" .up G false m p hd, hi2]
  rfl

set_option maxRecDepth 100000 in
set_option maxHeartbeats 2000000 in
theorem mceil (G : Nat) (k m : Nat) (p : Int) (hr : Ieee.double.read G = .number false m p) (hi : (Ieee.double.read G).integral .up = .number false k 0) (w : World) :
    Calls Tryz.prog 51 #[.float .f64 G] w fun e w' => e = .returned (.float .f64 (FloatKind.f64.encode (.number false k 0))) ∧ w = w' := by
  have hc := ceil_run G k m p hr hi
  clear hi hr
  generalize FloatKind.f64.encode (.number false k 0) = c at hc ⊢
  go_enter Tryz.func51, Tryz.ntmps51
  go_wp2
  go_ret
  exact ⟨rfl, rfl⟩

set_option maxRecDepth 100000 in
theorem ticks_low (G : Nat) (h : (FloatKind.f64.format.order G 0 == some .gt) = false) (w : World) :
    Calls Tryz.prog 15 #[.float .f64 G] w fun e w' => e = .returned (.int .u64 0) ∧ w = w' := by
  go_enter Tryz.func15, Tryz.ntmps15
  go_wp2_with fail
  go_ret
  exact ⟨rfl, rfl⟩
set_option maxRecDepth 100000 in
theorem ticks_high (G : Nat) (h : (FloatKind.f64.format.order G 0 == some .gt) = true) (h2 : (FloatKind.f64.format.order G 4787326403894837248 == some .gt || FloatKind.f64.format.order G 4787326403894837248 == some .eq) = true) (w : World) :
    Calls Tryz.prog 15 #[.float .f64 G] w fun e w' => e = .returned (.int .u64 1099511627776) ∧ w = w' := by
  go_enter Tryz.func15, Tryz.ntmps15
  go_wp2_with fail
  go_ret
  exact ⟨rfl, rfl⟩
set_option maxRecDepth 100000 in
set_option maxHeartbeats 2000000 in
theorem ticks_mid (G : Nat) (h : (FloatKind.f64.format.order G 0 == some .gt) = true) (h2 : (FloatKind.f64.format.order G 4787326403894837248 == some .gt || FloatKind.f64.format.order G 4787326403894837248 == some .eq) = false) (k m : Nat) (p : Int) (hr : Ieee.double.read G = .number false m p) (hi : (Ieee.double.read G).integral .up = .number false k 0)
    (c : Nat) (hc : FloatKind.f64.encode (.number false k 0) = c) (hk : floatToIntVal .f64 c .u64 = some (k : Int)) (w : World) :
    Calls Tryz.prog 15 #[.float .f64 G] w fun e w' => e = .returned (.int .u64 k) ∧ w = w' := by
  have HC := Lib.hid (fun w => mceil G k m p hr hi w)
  have hv : ∀ w, (convert 44 22 (.float .f64 c)).run Tryz.prog w = .ok (.int .u64 k) w := fun w => run_convert_float_int _ _ _ _ _ _ _ (by kernel_rfl) (by kernel_rfl) hk
  clear hi hr hk
  subst hc
  generalize FloatKind.f64.encode (.number false k 0) = c at HC hv ⊢
  go_enter Tryz.func15, Tryz.ntmps15
  go_wp2_with fail
  refine (HC.out _).mono ?_
  rintro e w1 ⟨rfl, rfl⟩
  go_wp2_with fail
  go_ret
  exact ⟨rfl, rfl⟩

theorem isnan_is (G : Nat) (b : Bool) (h : (FloatKind.f64.format.order G G != some .eq) = b) (w : World) :
    Calls Tryz.prog 109 #[.float .f64 G] w fun e w' => e = .returned (.bool b) ∧ w = w' := by
  go_enter Tryz.func109, Tryz.ntmps109
  go_wp2_with fail
  go_ret
  exact ⟨by simp [← h], rfl⟩
set_option maxRecDepth 100000 in
theorem clean_nan (G : Nat) (h : (FloatKind.f64.format.order G G != some .eq) = true) (w : World) :
    Calls Tryz.prog 52 #[.float .f64 G, .float .f64 0, .float .f64 4652007308841189376] w fun e w' => e = .returned (.float .f64 0) ∧ w = w' := by
  have HN := Lib.hid (fun w => isnan_is G true h w)
  clear h
  go_enter Tryz.func52, Tryz.ntmps52
  go_wp2_with fail
  refine (HN.out _).mono ?_
  rintro e w1 ⟨rfl, rfl⟩
  go_wp2_with fail
  go_ret
  exact ⟨rfl, rfl⟩
theorem lh : (FloatKind.f64.format.order 0 4652007308841189376 == some .lt || FloatKind.f64.format.order 0 4652007308841189376 == some .eq) = true := by decide +kernel
set_option maxRecDepth 100000 in
theorem clean_low (G : Nat) (h : (FloatKind.f64.format.order G G != some .eq) = false) (h1 : (FloatKind.f64.format.order G 0 == some .lt) = true) (w : World) :
    Calls Tryz.prog 52 #[.float .f64 G, .float .f64 0, .float .f64 4652007308841189376] w fun e w' => e = .returned (.float .f64 0) ∧ w = w' := by
  have HN := Lib.hid (fun w => isnan_is G false h w)
  have hlh := lh
  clear h
  go_enter Tryz.func52, Tryz.ntmps52
  go_wp2_with fail
  refine (HN.out _).mono ?_
  rintro e w1 ⟨rfl, rfl⟩
  go_wp2_with fail
  go_ret
  exact ⟨rfl, rfl⟩
set_option maxRecDepth 100000 in
theorem clean_high (G : Nat) (h : (FloatKind.f64.format.order G G != some .eq) = false) (h1 : (FloatKind.f64.format.order G 0 == some .lt) = false) (h2 : (FloatKind.f64.format.order G 4652007308841189376 == some .gt) = true) (w : World) :
    Calls Tryz.prog 52 #[.float .f64 G, .float .f64 0, .float .f64 4652007308841189376] w fun e w' => e = .returned (.float .f64 4652007308841189376) ∧ w = w' := by
  have HN := Lib.hid (fun w => isnan_is G false h w)
  have hlh := lh
  clear h
  go_enter Tryz.func52, Tryz.ntmps52
  go_wp2_with fail
  refine (HN.out _).mono ?_
  rintro e w1 ⟨rfl, rfl⟩
  go_wp2_with fail
  go_ret
  exact ⟨rfl, rfl⟩
set_option maxRecDepth 100000 in
theorem clean_zero (G : Nat) (h : (FloatKind.f64.format.order G G != some .eq) = false) (h1 : (FloatKind.f64.format.order G 0 == some .lt) = false) (h2 : (FloatKind.f64.format.order G 4652007308841189376 == some .gt) = false) (h3 : (FloatKind.f64.format.order G 0 == some .eq) = true) (w : World) :
    Calls Tryz.prog 52 #[.float .f64 G, .float .f64 0, .float .f64 4652007308841189376] w fun e w' => e = .returned (.float .f64 0) ∧ w = w' := by
  have HN := Lib.hid (fun w => isnan_is G false h w)
  have hlh := lh
  clear h
  go_enter Tryz.func52, Tryz.ntmps52
  go_wp2_with fail
  refine (HN.out _).mono ?_
  rintro e w1 ⟨rfl, rfl⟩
  go_wp2_with fail
  go_ret
  exact ⟨rfl, rfl⟩
set_option maxRecDepth 100000 in
theorem clean_same (G : Nat) (h : (FloatKind.f64.format.order G G != some .eq) = false) (h1 : (FloatKind.f64.format.order G 0 == some .lt) = false) (h2 : (FloatKind.f64.format.order G 4652007308841189376 == some .gt) = false) (h3 : (FloatKind.f64.format.order G 0 == some .eq) = false) (w : World) :
    Calls Tryz.prog 52 #[.float .f64 G, .float .f64 0, .float .f64 4652007308841189376] w fun e w' => e = .returned (.float .f64 G) ∧ w = w' := by
  have HN := Lib.hid (fun w => isnan_is G false h w)
  have hlh := lh
  clear h
  go_enter Tryz.func52, Tryz.ntmps52
  go_wp2_with fail
  refine (HN.out _).mono ?_
  rintro e w1 ⟨rfl, rfl⟩
  go_wp2_with fail
  go_ret
  exact ⟨rfl, rfl⟩

def NumC (C : Nat) : Prop := ∃ s m p, FloatKind.f64.decode C = .number s m p
theorem num_of (G : Nat) (h : (FloatKind.f64.format.order G G != some .eq) = false) (h1 : (FloatKind.f64.format.order G 0 == some .lt) = false) (h2 : (FloatKind.f64.format.order G 4652007308841189376 == some .gt) = false) : NumC G := by
  unfold NumC
  change ∃ s m p, Ieee.double.read G = .number s m p
  change (Ieee.Datum.order (Ieee.double.read G) (Ieee.double.read G) != some .eq) = false at h
  change (Ieee.Datum.order (Ieee.double.read G) (Ieee.double.read 0) == some .lt) = false at h1
  change (Ieee.Datum.order (Ieee.double.read G) (Ieee.double.read 4652007308841189376) == some .gt) = false at h2
  rw [show Ieee.double.read 0 = .number false 0 (-1074) by decide +kernel] at h1
  rw [show Ieee.double.read 4652007308841189376 = .number false 8796093022208000 (-43) by decide +kernel] at h2
  generalize Ieee.double.read G = d at h h1 h2
  cases d with
  | number s m p => exact ⟨s, m, p, rfl⟩
  | infinity s => cases s <;> simp [Ieee.Datum.order] at h1 h2
  | nan s f => simp [Ieee.Datum.order] at h
theorem clean_det (G : Nat) : ∃ C, NumC C ∧ ∀ w, Calls Tryz.prog 52 #[.float .f64 G, .float .f64 0, .float .f64 4652007308841189376] w fun e w' => e = .returned (.float .f64 C) ∧ w = w' := by
  have n0 : NumC 0 := ⟨false, 0, -1074, by decide +kernel⟩
  have n1 : NumC 4652007308841189376 := ⟨false, 8796093022208000, -43, by decide +kernel⟩
  cases h : (FloatKind.f64.format.order G G != some .eq) with
  | true => exact ⟨0, n0, clean_nan G h⟩
  | false =>
    cases h1 : (FloatKind.f64.format.order G 0 == some .lt) with
    | true => exact ⟨0, n0, clean_low G h h1⟩
    | false =>
      cases h2 : (FloatKind.f64.format.order G 4652007308841189376 == some .gt) with
      | true => exact ⟨_, n1, clean_high G h h1 h2⟩
      | false =>
        cases h3 : (FloatKind.f64.format.order G 0 == some .eq) with
        | true => exact ⟨0, n0, clean_zero G h h1 h2 h3⟩
        | false => exact ⟨G, num_of G h h1 h2, clean_same G h h1 h2 h3⟩

theorem len8_small (n : Nat) (h : n < 256) : 0 ≤ Lib.len8 n ∧ Lib.len8 n ≤ 8 := by
  have H : ((List.range 256).all fun n => decide (0 ≤ Lib.len8 n ∧ Lib.len8 n ≤ 8)) = true := by decide +kernel
  have := List.all_eq_true.1 H n (List.mem_range.2 h)
  simpa using this
set_option maxRecDepth 100000 in
set_option maxHeartbeats 2000000 in
theorem len64_byte (n : Nat) (h : n < 256) (w : World) : Calls Tryz.prog 161 #[.int .u64 n] w fun e w' => e = .returned (.int .i64 (Lib.len8 n)) ∧ w = w' := by
  have h0 : 0 ≤ (n : Int) ∧ (n : Int) < 256 := by omega
  obtain ⟨h0, h1⟩ := h0
  have h2 : (n : Int) ≤ 255 := by omega
  have q1 : decide ((n : Int) ≥ 4294967296) = false := by simp; omega
  have q2 : decide ((n : Int) ≥ 65536) = false := by simp; omega
  have q3 : decide ((n : Int) ≥ 256) = false := by simp; omega
  have hs := len8_small n h
  have hw : wrap64 (Lib.len8 n) = Lib.len8 n := wrap_small (by omega) (by omega)
  clear h hs
  go_enter Tryz.func161, Tryz.ntmps161
  go_wp2_with fail
  go_ret
  exact ⟨by simp only [hw]; rfl, rfl⟩
set_option maxRecDepth 100000 in
theorem len_byte (n : Nat) (h : n < 256) (w : World) : Calls Tryz.prog 110 #[.int .u64 n] w fun e w' => e = .returned (.int .i64 (Lib.len8 n)) ∧ w = w' := by
  have HL := Lib.hid (fun w => len64_byte n h w)
  have h0 : 0 ≤ (n : Int) ∧ (n : Int) < 256 := by omega
  obtain ⟨h0, h1⟩ := h0
  clear h
  go_enter Tryz.func110, Tryz.ntmps110
  go_wp2_with fail
  refine (HL.out _).mono ?_
  rintro e w1 ⟨rfl, rfl⟩
  go_wp2_with fail
  go_ret
  exact ⟨rfl, rfl⟩
set_option maxRecDepth 100000 in
theorem rbits_byte (n : Nat) (h : n < 256) (w : World) : Calls Tryz.prog 53 #[.int .i64 n] w fun e w' => e = .returned (.int .i64 (Lib.len8 n)) ∧ w = w' := by
  have HL := Lib.hid (fun w => len_byte n h w)
  have h0 : 0 ≤ (n : Int) ∧ (n : Int) < 256 := by omega
  have hm : max (n : Int) 0 = n := by omega
  obtain ⟨h0, h1⟩ := h0
  clear h
  go_enter Tryz.func53, Tryz.ntmps53
  go_wp2_with fail
  refine (HL.out _).mono ?_
  rintro e w1 ⟨rfl, rfl⟩
  go_wp2_with fail
  go_ret
  exact ⟨rfl, rfl⟩

theorem write_num (s : Bool) (m : Nat) (p : Int) (neg : Bool) (f : Nat) : Ieee.double.read (Ieee.double.write (.number s m p)) ≠ .nan neg f := by
  have hw : ∃ b r, r ≤ Ieee.double.infRung ∧ Ieee.double.write (.number s m p) = Ieee.double.word b r := by
    unfold Ieee.Format.write Ieee.Format.nearest
    dsimp only
    split
    · exact ⟨s, 0, Nat.zero_le _, rfl⟩
    · exact ⟨s, _, Nat.min_le_right _ _, rfl⟩
  obtain ⟨b, r, hr, e⟩ := hw
  rw [e]
  have hi : Ieee.double.infRung = 2047 * 4503599627370496 := by simp [Ieee.Format.infRung, Ieee.Format.binade, Ieee.double]
  have hs : Ieee.double.signWeight = 2048 * 4503599627370496 := by simp [Ieee.Format.signWeight, Ieee.double]
  have hm : Ieee.double.word b r % Ieee.double.signWeight = r := by
    unfold Ieee.Format.word
    rw [hs]
    rw [hi] at hr
    cases b
    · simp; omega
    · simp; omega
  unfold Ieee.Format.read
  rw [hm]
  dsimp only
  split
  · simp
  · split
    · simp
    · split
      · simp
      · omega
theorem num_small (b : Int) (h : 0 ≤ b ∧ b ≤ 8) : NumC (floatOfInt .f64 b) := by
  have H : ((List.range 9).all fun n => match FloatKind.f64.decode (floatOfInt .f64 (n : Int)) with | .number .. => true | _ => false) = true := by decide +kernel
  have := List.all_eq_true.1 H b.toNat (List.mem_range.2 (by omega))
  rw [show ((b.toNat : Nat) : Int) = b by omega] at this
  unfold NumC
  cases hd : FloatKind.f64.decode (floatOfInt .f64 b) with
  | number s m p => exact ⟨s, m, p, rfl⟩
  | infinity s => rw [hd] at this; simp at this
  | nan s f => rw [hd] at this; simp at this
theorem mul_det (C F : Nat) (hC : NumC C) (hF : NumC F) : ∃ r, floatBits .mul .f64 C F = some r ∧ FloatKind.f64.format.order r C ≠ none := by
  obtain ⟨s, m, p, hc⟩ := hC
  obtain ⟨t, n, q, hf⟩ := hF
  change Ieee.double.read C = _ at hc
  change Ieee.double.read F = _ at hf
  refine ⟨Ieee.double.write (.number (s ^^ t) (m * n) (p + q)), ?_, ?_⟩
  · show Ieee.double.mul C F = _
    unfold Ieee.Format.mul
    rw [hc, hf]
    rfl
  · show Ieee.double.order _ C ≠ none
    unfold Ieee.Format.order
    rw [hc]
    have := write_num (s ^^ t) (m * n) (p + q)
    generalize Ieee.double.read (Ieee.double.write (.number (s ^^ t) (m * n) (p + q))) = d at this
    cases d with
    | number => simp [Ieee.Datum.order]
    | infinity => simp [Ieee.Datum.order]
    | nan a b => exact absurd rfl (this a b)
theorem max_det (r C : Nat) (h : FloatKind.f64.format.order r C ≠ none) : ∃ g, ∀ {P : Program} (a : Array TypeId) (t : TypeId) (w : World), (Builtin.max_ a t #[.float .f64 r, .float .f64 C]).run P w = .ok (.float .f64 g) w := by
  cases ho : FloatKind.f64.format.order r C with
  | none => exact absurd ho h
  | some o =>
    cases o with
    | lt => exact ⟨C, fun a t w => by simp [Builtin.max_, Builtin.max2, ho]⟩
    | gt => exact ⟨r, fun a t w => by simp [Builtin.max_, Builtin.max2, ho]⟩
    | eq => exact ⟨if (FloatKind.f64.decode r).neg then C else r, fun a t w => by simp [Builtin.max_, Builtin.max2, ho]⟩


/-- A region whose ways all end alike. -/
theorem wp_merge {P : Program} {c : Code} {Q : Exit → Act → World → Prop} {a : Act} {w : World} (A : Act) (B : World) (h : c.wp P (NoPanic fun e a' w' => e = .normal ∧ a' = A ∧ w' = B) a w) (hc : Q .normal A B) : c.wp P Q a w :=
  Code.wp_mono (fun e a' w' h => by
    have h2 := NoPanic.imp _ _ _ h
    obtain ⟨rfl, rfl, rfl⟩ := h2
    exact hc) h
set_option maxRecDepth 100000 in
set_option maxHeartbeats 2000000 in
theorem wait_walk (base C n : Nat) (b : Int) (r g : Nat) (hC : ∀ w, Calls Tryz.prog 52 #[.float .f64 base, .float .f64 0, .float .f64 4652007308841189376] w fun e w' => e = .returned (.float .f64 C) ∧ w = w')
    (hB : ∀ w, Calls Tryz.prog 53 #[.int .i64 n] w fun e w' => e = .returned (.int .i64 b) ∧ w = w') (hr : floatBits .mul .f64 C (floatOfInt .f64 b) = some r)
    (hg : ∀ (a : Array TypeId) (t : TypeId) (w : World), (Builtin.max_ a t #[.float .f64 r, .float .f64 C]).run Tryz.prog w = .ok (.float .f64 g) w) (w : World) :
    Calls Tryz.prog 16 #[.float .f64 base, .int .i64 n, .int .i64 0, .int .i64 3] w fun e w' => e = .returned (.float .f64 g) ∧ Mod [] w w' := by
  have HC := Lib.hid hC
  have HB := Lib.hid hB
  have hm : ∀ (t : TypeId) w, (binOp .mul t (.float .f64 C) (.float .f64 (floatOfInt .f64 b))).run Tryz.prog w = .ok (.float .f64 r) w := fun t w => run_float_arith w _ _ _ _ _ _ hr
  have hst : ∀ (a : Addr) (x : Nat) (w : World) (m : Mode), (store a (.float .f64 x) m).run Tryz.prog w = stored Tryz.prog w a (.float .f64 x) m := fun a x w m => run_store Tryz.prog w a _ m rfl
  clear hC hB hr
  go_enter Tryz.func16, Tryz.ntmps16
  go_wp2_with fail
  refine (HC.out _).mono ?_
  rintro e w1 ⟨rfl, rfl⟩
  go_wp2_with fail
  have HM := Lib.hid ((Mod.refl [] w).alloc (.cells #[.float .f64 C] 44))
  have hc0 : (w.alloc (.cells #[.float .f64 C] 44)).cell? ⟨w.heap.size, 0, none⟩ = some (.float .f64 C) := by simp
  have hsz : (w.alloc (.cells #[.float .f64 C] 44)).heap.size = w.heap.size + 1 := by simp
  generalize w.alloc (.cells #[.float .f64 C] 44) = W at HM hc0 hsz ⊢
  generalize w.heap.size = c at hc0 hsz ⊢
  have hne := World.new_ne W ⟨c, 0, none⟩ hc0
  apply wp_merge (B := (W.alloc (.cells #[.float .f64 g] 44)).drew)
  case' h =>
    go_region_held3 (fun w' => w'.cell? ⟨c, 0, none⟩ = some (.float .f64 C)) (go_keep) ((go_at_call 53; refine (HB.out _).mono ?_; rintro e w5 ⟨rfl, rfl⟩))
    all_goals exact NoPanic.normal ⟨rfl, rfl, rfl⟩
  case' hc =>
    have HM2 := Lib.hid ((HM.out.alloc (.cells #[.float .f64 g] 44)).drew)
    have hc1 : (W.alloc (.cells #[.float .f64 g] 44)).drew.cell? ⟨c + 1, 0, none⟩ = some (.float .f64 g) := by
      show (W.alloc (.cells #[.float .f64 g] 44)).cell? ⟨c + 1, 0, none⟩ = _
      rw [World.cell?_alloc_at (w := W) (hn := hsz.symm)]
      rfl
    generalize (W.alloc (.cells #[.float .f64 g] 44)).drew = W2 at HM2 hc1 ⊢
    clear hc0 hsz hne hm hg hst
    go_wp2_with fail
    go_ret
    exact ⟨rfl, HM2.out⟩

theorem wait_det (base n : Nat) (hn : n < 256) : ∃ G, ∀ w, Calls Tryz.prog 16 #[.float .f64 base, .int .i64 n, .int .i64 0, .int .i64 3] w fun e w' => e = .returned (.float .f64 G) ∧ Mod [] w w' := by
  obtain ⟨C, hCn, hC⟩ := clean_det base
  obtain ⟨r, hr, ho⟩ := mul_det C (floatOfInt .f64 (Lib.len8 n)) hCn (num_small _ (len8_small n hn))
  obtain ⟨g, hg⟩ := max_det r C ho
  exact ⟨g, fun w => wait_walk base C n _ r g hC (rbits_byte n hn) hr hg w⟩

theorem t40_some {G : Nat} (h : Ieee.double.order G 0 = some .gt) : Ieee.double.order G 4787326403894837248 ≠ none := by
  unfold Ieee.Format.order at h ⊢
  rw [read_t40]
  cases hG : Ieee.double.read G with
  | nan s f => rw [hG] at h; simp [Ieee.Datum.order] at h
  | infinity s => simp [Ieee.Datum.order]
  | number s m p => simp [Ieee.Datum.order]

theorem ticks_det (G : Nat) : ∃ t : Nat, t ≤ 1099511627776 ∧ ∀ w, Calls Tryz.prog 15 #[.float .f64 G] w fun e w' => e = .returned (.int .u64 t) ∧ w = w' := by
  cases h : (FloatKind.f64.format.order G 0 == some .gt) with
  | false => exact ⟨0, by omega, fun w => ticks_low G h w⟩
  | true =>
    cases h2 : (FloatKind.f64.format.order G 4787326403894837248 == some .gt || FloatKind.f64.format.order G 4787326403894837248 == some .eq) with
    | true => exact ⟨1099511627776, by omega, fun w => ticks_high G h h2 w⟩
    | false =>
      have h0 : Ieee.double.order G 0 = some .gt := by
        change (Ieee.double.order G 0 == some .gt) = true at h
        simpa using h
      have h1 : Ieee.double.order G 4787326403894837248 = some .lt := by
        change (Ieee.double.order G 4787326403894837248 == some .gt || Ieee.double.order G 4787326403894837248 == some .eq) = false at h2
        cases ho : Ieee.double.order G 4787326403894837248 with
        | some o =>
          rw [ho] at h2
          cases o
          · rfl
          · simp at h2
          · simp at h2
        | none => exact absurd ho (t40_some h0)
      obtain ⟨k, m, p, hk, hr, hi⟩ := ceil_of h0 h1
      refine ⟨k, hk, fun w => ticks_mid G h h2 k m p hr hi _ rfl ?_ w⟩
      have := ceil_back k hk
      unfold floatToIntVal
      rw [this]
      have e1 : IntKind.u64.min = 0 := by decide
      have e2 : IntKind.u64.max = 18446744073709551615 := by decide
      simp only [e1, e2]
      rw [if_pos ⟨by omega, by omega⟩]

end Go.Proofs.YtpbamamplmbgjaaGreatDoor
