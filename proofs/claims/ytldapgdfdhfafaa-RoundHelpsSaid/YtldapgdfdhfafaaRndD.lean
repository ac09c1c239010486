/-
  The walk of conventicleref05.Less; its list, plain.
-/
import Derived.Test.YtldapgdfdhfafaaRndB
namespace Go.Proofs.Ytldapgdfdhfafaa
open Go.RowKit

theorem bit_nat (B n : Nat) : bit (B : Int) n = (B / 2 ^ n % 2 == 1) := by
  unfold bit
  have e : ((B : Int) / 2 ^ n % 2) = ((B / 2 ^ n % 2 : Nat) : Int) := by
    simp
  rw [e]
  rw [Bool.eq_iff_iff]
  simp
  omega

theorem bit_le {B k : Nat} (h : B / 2 ^ k % 2 = 1) : 2 ^ k ≤ B := by
  rcases Nat.lt_or_ge B (2 ^ k) with h1 | h1
  · rw [Nat.div_eq_of_lt h1] at h
    omega
  · exact h1
theorem sub_div_pow (B k : Nat) : (B - 2 ^ k) / 2 ^ k = B / 2 ^ k - 1 := by
  have := Nat.sub_mul_div B (2 ^ k) 1
  rwa [Nat.mul_one] at this
theorem bit_sub_same {B k : Nat} (h : B / 2 ^ k % 2 = 1) : (B - 2 ^ k) / 2 ^ k % 2 = 0 := by
  rw [sub_div_pow]
  omega
theorem bit_sub_low {B k j : Nat} (h : B / 2 ^ k % 2 = 1) (hj : j < k) : (B - 2 ^ k) / 2 ^ j % 2 = B / 2 ^ j % 2 := by
  obtain ⟨e, rfl⟩ : ∃ e, k = j + (e + 1) := ⟨k - j - 1, by omega⟩
  have hle := bit_le h
  have h2 : 2 ^ (j + (e + 1)) = 2 ^ j * (2 * 2 ^ e) := by rw [Nat.pow_add, Nat.pow_succ]; congr 1; omega
  have h3 : 2 * 2 ^ e ≤ B / 2 ^ j := by
    rw [Nat.le_div_iff_mul_le (Nat.pow_pos (by omega)), Nat.mul_comm, ← h2]
    exact hle
  rw [h2, Nat.sub_mul_div]
  omega
theorem bit_sub_high {B k j : Nat} (h : B / 2 ^ k % 2 = 1) (hj : k < j) : (B - 2 ^ k) / 2 ^ j % 2 = B / 2 ^ j % 2 := by
  obtain ⟨e, rfl⟩ : ∃ e, j = k + (1 + e) := ⟨j - k - 1, by omega⟩
  rw [Nat.pow_add, Nat.pow_add, ← Nat.div_div_eq_div_mul, ← Nat.div_div_eq_div_mul, ← Nat.div_div_eq_div_mul, ← Nat.div_div_eq_div_mul, sub_div_pow]
  have key : ∀ x : Nat, x % 2 = 1 → (x - 1) / 2 ^ 1 = x / 2 ^ 1 := by
    intro x hx
    rw [Nat.pow_one]
    omega
  rw [key _ h]

theorem bit_lt {b : Int} {k : Nat} (b0 : 0 ≤ b) (h : bit b k = true) : (2 : Int) ^ k ≤ b := by
  obtain ⟨B, rfl⟩ : ∃ B : Nat, b = B := ⟨b.toNat, by omega⟩
  rw [bit_nat] at h
  have := bit_le (by simpa using h)
  exact_mod_cast this
theorem less_bit {b : Int} {k : Nat} (b0 : 0 ≤ b) (h : bit b k = true) (j : Nat) : bit (b - 2 ^ k) j = if j = k then false else bit b j := by
  obtain ⟨B, rfl⟩ : ∃ B : Nat, b = B := ⟨b.toNat, by omega⟩
  have hl := bit_lt b0 h
  rw [bit_nat] at h
  have h1 : B / 2 ^ k % 2 = 1 := by simpa using h
  have hle := bit_le h1
  have e : ((B : Int) - 2 ^ k) = ((B - 2 ^ k : Nat) : Int) := by
    rw [Int.ofNat_sub hle]
    simp
  rw [e, bit_nat, bit_nat]
  by_cases hj : j = k
  · subst hj
    rw [if_pos rfl, bit_sub_same h1]
    rfl
  · rw [if_neg hj]
    rcases Nat.lt_or_ge j k with h2 | h2
    · rw [bit_sub_low h1 h2]
    · rw [bit_sub_high h1 (by omega)]

set_option maxHeartbeats 1000000 in
theorem less_any (b : Int) (k : Nat) (b0 : 0 ≤ b) (b1 : b ≤ 18446744073709551615) (hk : k < 64) (h : bit b k = true) (w : World) :
    Calls Try.prog 9 #[.int .u64 b, .int .i64 k] w fun e w' => e = .returned (.int .u64 (b - 2 ^ k)) ∧ w = w' := by
  have hp : (0 : Int) < 2 ^ k := Int.pow_pos (by omega)
  have hl := bit_lt b0 h
  have HB := Lib.hid h
  clear h
  go_enter Try.func9, Try.ntmps9
  go_wp2_with fail
  refine (has_is b k true b0 b1 hk HB.out _).mono ?_
  rintro e w1 ⟨rfl, rfl⟩
  go_wp2_with fail
  go_ret
  exact ⟨rfl, rfl⟩

end Go.Proofs.Ytldapgdfdhfafaa
