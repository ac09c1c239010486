/-
  The walks of conventicleref05: With, Of, Many, Both, Less; plain: their bits.
-/
import Derived.Test.YtldapgdfdhfafaaRndD
namespace Go.Proofs.Ytldapgdfdhfafaa
open Go.RowKit

theorem bit_test (B n : Nat) : bit (B : Int) n = B.testBit n := by
  rw [bit_nat, Nat.testBit_eq_decide_div_mod_eq, Bool.eq_iff_iff]
  simp

theorem has_nat (B n : Nat) (x : Bool) (hB : B < 18446744073709551616) (hn : n < 64) (hx : B.testBit n = x) (w : World) : Calls Try.prog 18 #[.int .u64 (B : Int), .int .i64 (n : Int)] w fun e w' => e = .returned (.bool x) ∧ w = w' :=
  has_is (B : Int) n x (by omega) (by omega) hn (by rw [bit_test]; exact hx) w

set_option maxHeartbeats 1000000 in
theorem with_any (B n : Nat) (hB : B < 18446744073709551616) (hn : n < 64) (w : World) : Calls Try.prog 19 #[.int .u64 (B : Int), .int .i64 (n : Int)] w fun e w' => e = .returned (.int .u64 ((B ||| 2 ^ n : Nat) : Int)) ∧ w = w' := by
  have hp : 2 ^ n < 18446744073709551616 := Nat.pow_lt_pow_of_lt (by omega) (show n < 64 from hn)
  have hor := bits_or_u64_nat B (2 ^ n) hB hp
  have hcast : ((2 ^ n : Nat) : Int) = (2 : Int) ^ n := by simp
  rw [hcast] at hor
  have hpi : (2 : Int) ^ n < 18446744073709551616 := by rw [← hcast]; omega
  have hpi0 : (0 : Int) < (2 : Int) ^ n := by rw [← hcast]; have := Nat.pow_pos (n := n) (show 0 < 2 by omega); omega
  clear hp hcast
  go_enter Try.func19, Try.ntmps19
  go_wp2_with fail
  refine (bnode_any n hn _).mono ?_
  rintro e w1 ⟨rfl, rfl⟩
  go_wp2_with fail
  go_ret
  exact ⟨by simp [hor], rfl⟩

/-- The band of a list. -/
def ofL (l : List Int) : Nat := l.foldl (fun B y => B ||| 2 ^ y.toNat) 0
theorem ofL_snoc (l : List Int) (y : Int) : ofL (l ++ [y]) = ofL l ||| 2 ^ y.toNat := by simp [ofL]
theorem ofL_lt' {l : List Int} (h : ∀ y ∈ l, 0 ≤ y ∧ y < 64) (B : Nat) (hB : B < 18446744073709551616) : l.foldl (fun B y => B ||| 2 ^ y.toNat) B < 18446744073709551616 := by
  induction l generalizing B with
  | nil => exact hB
  | cons y l ih =>
    have hy := h y (by simp)
    exact ih (fun z hz => h z (by simp [hz])) _ (Nat.or_lt_two_pow (n := 64) hB (Nat.pow_lt_pow_of_lt (by omega) (by omega)))
theorem ofL_lt {l : List Int} (h : ∀ y ∈ l, 0 ≤ y ∧ y < 64) : ofL l < 18446744073709551616 := ofL_lt' h 0 (by decide)
theorem ofL_bit' {l : List Int} (h : ∀ y ∈ l, 0 ≤ y ∧ y < 64) (B j : Nat) : (l.foldl (fun B y => B ||| 2 ^ y.toNat) B).testBit j = (B.testBit j || decide ((j : Int) ∈ l)) := by
  induction l generalizing B with
  | nil => simp
  | cons y l ih =>
    have hy := h y (by simp)
    show (l.foldl _ (B ||| 2 ^ y.toNat)).testBit j = _
    rw [ih (fun z hz => h z (by simp [hz])), Nat.testBit_or, Nat.testBit_two_pow, Bool.eq_iff_iff]
    have e : y.toNat = j ↔ (j : Int) = y := by omega
    simp [e]
    constructor
    · rintro ((h | h) | h)
      · exact .inl h
      · exact .inr (.inl h)
      · exact .inr (.inr h)
    · rintro (h | h | h)
      · exact .inl (.inl h)
      · exact .inl (.inr h)
      · exact .inr h
theorem ofL_bit {l : List Int} (h : ∀ y ∈ l, 0 ≤ y ∧ y < 64) (j : Nat) : (ofL l).testBit j = decide ((j : Int) ∈ l) := by
  unfold ofL
  rw [ofL_bit' h]
  simp

set_option maxHeartbeats 2000000 in
theorem of_any (a : Option Addr) (c : Nat) (l : List Int) (w : World) (hr : RdInts .i64 w a l) (hl : ∀ y ∈ l, 0 ≤ y ∧ y < 64) (hn : l.length ≤ 1000000) :
    Calls Try.prog 8 #[.slice a l.length c] w fun e w' => e = .returned (.int .u64 (ofL l : Int)) ∧ w = w' := by
  have HR := Lib.hid hr
  have HL := Lib.hid hl
  clear hr hl
  go_enter Try.func8, Try.ntmps8
  go_wp2_with fail
  go_loopw [3, 4] (fun v u wr => ∃ k : Nat, u = .int .i64 k ∧ v = .int .u64 (ofL (l.take k) : Int) ∧ k ≤ l.length ∧ wr = w) (fun _ u _ => l.length - (intOf u).toNat)
  case atStart => exact ⟨0, rfl, rfl, Nat.zero_le _, rfl⟩
  case round =>
    obtain ⟨k, rfl, rfl, hk, rfl⟩ := hrel
    by_cases hlt : (k : Int) < l.length
    · have hlt' : k < l.length := by omega
      obtain ⟨y, hy⟩ : ∃ y, l[k]? = some y := ⟨_, List.getElem?_eq_getElem hlt'⟩
      obtain ⟨ad, rfl, _, hcx⟩ := HR.out (by intro h; rw [h] at hlt'; simp at hlt')
      have hyb := HL.out y (List.mem_of_getElem? hy)
      obtain ⟨yn, rfl⟩ : ∃ yn : Nat, y = yn := ⟨y.toNat, by omega⟩
      have cx := hcx k _ hy
      have hof : ofL (l.take (k + 1)) = ofL (l.take k) ||| 2 ^ yn := by
        rw [List.take_add_one, hy]
        simp only [Option.toList]
        rw [ofL_snoc]
        simp
      obtain ⟨B, hB⟩ : ∃ B, ofL (l.take k) = B := ⟨_, rfl⟩
      have HBL := Lib.hid (show B < 18446744073709551616 by rw [← hB]; exact ofL_lt fun z hz => HL.out z (List.mem_of_mem_take hz))
      have HOF := Lib.hid hof
      have HB := Lib.hid hB
      have HYN := Lib.hid (show yn < 64 by omega)
      rw [hB]
      clear hcx hy hof hB hyb
      go_wp2_with fail
      refine (with_any B yn HBL.out HYN.out _).mono ?_
      rintro e w1 ⟨rfl, rfl⟩
      go_wp2_with fail
      go_roundw
      case rel => exact ⟨k + 1, by go_num, by rw [HOF.out, HB.out], by omega, by trivial⟩
      case measure => simp [intOf]; omega
    · obtain rfl : k = l.length := by omega
      rw [List.take_length]
      go_wp2_with fail
      go_ret
      exact ⟨rfl, rfl⟩

set_option maxHeartbeats 1000000 in
theorem many_any (b : Int) (b0 : 0 ≤ b) (b1 : b ≤ 18446744073709551615) (w : World) : Calls Try.prog 10 #[.int .u64 b] w fun e w' => e = .returned (.int .i64 ((listTo b 64).length : Int)) ∧ Mod [] w w' := by
  go_enter Try.func10, Try.ntmps10
  go_wp2_with fail
  refine (list_any b b0 b1 _).mono ?_
  rintro e w1 ⟨v, rfl, hO, hM⟩
  obtain ⟨la, lc, rfl, _⟩ := hO.shape
  have HM := Lib.hid hM
  clear hO hM
  go_wp2_with fail
  go_ret
  exact ⟨rfl, HM.out⟩

/-- What two bands have. -/
def bothTo (a b : Nat) (n : Nat) : Nat := (List.range n).foldl (fun B j => if a.testBit j && b.testBit j then B ||| 2 ^ j else B) 0
theorem bothTo_succ (a b n : Nat) : bothTo a b (n + 1) = if a.testBit n && b.testBit n then bothTo a b n ||| 2 ^ n else bothTo a b n := by
  simp [bothTo, List.range_succ]
theorem bothTo_bit (a b n j : Nat) : (bothTo a b n).testBit j = (decide (j < n) && (a.testBit j && b.testBit j)) := by
  induction n with
  | zero => simp [bothTo]
  | succ n ih =>
    rw [bothTo_succ]
    by_cases h : (a.testBit n && b.testBit n) = true
    · rw [if_pos h, Nat.testBit_or, ih, Nat.testBit_two_pow]
      by_cases hj : n = j
      · subst hj
        simp at h
        simp [h]
      · have : decide (j < n + 1) = decide (j < n) := by simp; omega
        rw [this]
        simp [hj]
    · rw [if_neg h, ih]
      by_cases hj : n = j
      · subst hj
        simp at h
        simp
        exact h
      · have : decide (j < n + 1) = decide (j < n) := by simp; omega
        rw [this]
theorem bothTo_lt (a b n : Nat) (h : n ≤ 64) : bothTo a b n < 18446744073709551616 := by
  induction n with
  | zero => show 0 < _; decide
  | succ n ih =>
    rw [bothTo_succ]
    split
    · exact Nat.or_lt_two_pow (n := 64) (ih (by omega)) (Nat.pow_lt_pow_of_lt (by omega) (by omega))
    · exact ih (by omega)

set_option maxHeartbeats 2000000 in
theorem both_any (a b : Nat) (ha : a < 18446744073709551616) (hb : b < 18446744073709551616) (w : World) :
    Calls Try.prog 11 #[.int .u64 (a : Int), .int .u64 (b : Int)] w fun e w' => e = .returned (.int .u64 (bothTo a b 64 : Int)) ∧ w = w' := by
  go_enter Try.func11, Try.ntmps11
  go_wp2_with fail
  go_loopw [5, 6] (fun v u wr => ∃ k : Nat, u = .int .i64 k ∧ v = .int .u64 (bothTo a b k : Int) ∧ k ≤ 64 ∧ wr = w) (fun _ u _ => 64 - (intOf u).toNat)
  case atStart => exact ⟨0, rfl, rfl, Nat.zero_le _, rfl⟩
  case round =>
    obtain ⟨k, rfl, rfl, hk, rfl⟩ := hrel
    obtain ⟨B, hB⟩ : ∃ B, bothTo a b k = B := ⟨_, rfl⟩
    have HBL := Lib.hid (show B < 18446744073709551616 by rw [← hB]; exact bothTo_lt a b k hk)
    have HB := Lib.hid hB
    have HS := Lib.hid (bothTo_succ a b k)
    rw [hB]
    clear hB
    by_cases hlt : (k : Int) < 64
    · have hlt' : k < 64 := by omega
      cases h1 : a.testBit k with
      | false =>
        have H1 := Lib.hid h1
        clear h1
        go_wp2_with fail
        refine (has_nat a k false ha hlt' H1.out _).mono ?_
        rintro e w1 ⟨rfl, rfl⟩
        go_wp2_with fail
        go_roundw
        case rel => exact ⟨k + 1, by go_num, by rw [HS.out, H1.out, ← HB.out]; rfl, by omega, by trivial⟩
        case measure => simp [intOf]; omega
      | true =>
        have H1 := Lib.hid h1
        clear h1
        cases h2 : b.testBit k with
        | false =>
          have H2 := Lib.hid h2
          clear h2
          go_wp2_with fail
          refine (has_nat a k true ha hlt' H1.out _).mono ?_
          rintro e w1 ⟨rfl, rfl⟩
          go_wp2_with fail
          refine (has_nat b k false hb hlt' H2.out _).mono ?_
          rintro e w1 ⟨rfl, rfl⟩
          go_wp2_with fail
          go_roundw
          case rel => exact ⟨k + 1, by go_num, by rw [HS.out, H1.out, H2.out, ← HB.out]; rfl, by omega, by trivial⟩
          case measure => simp [intOf]; omega
        | true =>
          have H2 := Lib.hid h2
          clear h2
          go_wp2_with fail
          refine (has_nat a k true ha hlt' H1.out _).mono ?_
          rintro e w1 ⟨rfl, rfl⟩
          go_wp2_with fail
          refine (has_nat b k true hb hlt' H2.out _).mono ?_
          rintro e w1 ⟨rfl, rfl⟩
          go_wp2_with fail
          refine (with_any B k HBL.out hlt' _).mono ?_
          rintro e w1 ⟨rfl, rfl⟩
          go_wp2_with fail
          go_roundw
          case rel => exact ⟨k + 1, by go_num, by rw [HS.out, H1.out, H2.out, HB.out]; rfl, by omega, by trivial⟩
          case measure => simp [intOf]; omega
    · obtain rfl : k = 64 := by omega
      go_wp2_with fail
      go_ret
      exact ⟨by rw [HB.out]; rfl, rfl⟩

set_option maxHeartbeats 1000000 in
theorem less_no (b : Int) (k : Nat) (b0 : 0 ≤ b) (b1 : b ≤ 18446744073709551615) (hk : k < 64) (h : bit b k = false) (w : World) :
    Calls Try.prog 9 #[.int .u64 b, .int .i64 k] w fun e w' => e = .returned (.int .u64 b) ∧ w = w' := by
  have HB := Lib.hid h
  clear h
  go_enter Try.func9, Try.ntmps9
  go_wp2_with fail
  refine (has_is b k false b0 b1 hk HB.out _).mono ?_
  rintro e w1 ⟨rfl, rfl⟩
  go_wp2_with fail
  go_ret
  exact ⟨rfl, rfl⟩

end Go.Proofs.Ytldapgdfdhfafaa
