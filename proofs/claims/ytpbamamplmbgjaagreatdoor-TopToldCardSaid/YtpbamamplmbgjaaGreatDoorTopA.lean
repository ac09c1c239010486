/-
  The walks of package band: bit, With, Has, Less; of bits.TrailingZeros64; band.First, nodes.
-/
import Derived.Test.YtpbamamplmbgjaaGreatDoorBase
namespace Go.Proofs.YtpbamamplmbgjaaGreatDoor
set_option linter.unusedSimpArgs false
set_option linter.unusedVariables false
open Go.RowKit

set_option maxHeartbeats 400000 in
theorem bit_is (n : Nat) (hn : n < 64) (w : World) : Calls Tryz.prog 100 #[.int .i64 n] w fun e w' => e = .returned (.int .u64 (2 ^ n)) ∧ w = w' := by
  have hp : IntKind.u64.wrap (2 ^ n : Int) = 2 ^ n := by
    have h1 : (2 : Int) ^ n ≤ 2 ^ 63 := by exact_mod_cast Nat.pow_le_pow_right (n := 2) (by omega) (show n ≤ 63 by omega)
    have h0 : (0 : Int) ≤ 2 ^ n := Int.pow_nonneg (by omega)
    show (2 : Int) ^ n % 18446744073709551616 = 2 ^ n
    omega
  have HP := Lib.hid hp
  clear hp
  go_enter Tryz.func100, Tryz.ntmps100
  go_wp2_with fail
  go_ret
  exact ⟨by simpa using HP.out, rfl⟩

set_option maxHeartbeats 400000 in
theorem with_is (b r : Int) (n : Nat) (hn : n < 64) (hr : bits .or .u64 b (2 ^ n) = r) (w : World) : Calls Tryz.prog 49 #[.int .u64 b, .int .i64 n] w fun e w' => e = .returned (.int .u64 r) ∧ w = w' := by
  have HR := Lib.hid hr
  clear hr
  go_enter Tryz.func49, Tryz.ntmps49
  go_wp2_with fail
  refine (bit_is n hn _).mono ?_
  rintro e w1 ⟨rfl, rfl⟩
  go_wp2_with fail
  go_ret
  exact ⟨by rw [← HR.out]; rfl, rfl⟩

set_option maxHeartbeats 400000 in
theorem has_is (b : Int) (n : Nat) (x : Bool) (hn : n < 64) (hx : (bits .and .u64 b (2 ^ n) != 0) = x) (w : World) : Calls Tryz.prog 44 #[.int .u64 b, .int .i64 n] w fun e w' => e = .returned (.bool x) ∧ w = w' := by
  have HX := Lib.hid hx
  clear hx
  go_enter Tryz.func44, Tryz.ntmps44
  go_wp2_with fail
  refine (bit_is n hn _).mono ?_
  rintro e w1 ⟨rfl, rfl⟩
  go_wp2_with fail
  go_ret
  exact ⟨by rw [← HX.out]; rfl, rfl⟩

set_option maxHeartbeats 400000 in
theorem less_is (b r : Int) (n : Nat) (hn : n < 64) (hr : bits .andNot .u64 b (2 ^ n) = r) (w : World) : Calls Tryz.prog 133 #[.int .u64 b, .int .i64 n] w fun e w' => e = .returned (.int .u64 r) ∧ w = w' := by
  have HR := Lib.hid hr
  clear hr
  go_enter Tryz.func133, Tryz.ntmps133
  go_wp2_with fail
  refine (bit_is n hn _).mono ?_
  rintro e w1 ⟨rfl, rfl⟩
  go_wp2_with fail
  go_ret
  exact ⟨by rw [← HR.out]; rfl, rfl⟩

def deB : List Nat := [0, 1, 56, 2, 57, 49, 28, 3, 61, 58, 42, 50, 38, 29, 17, 4, 62, 47, 59, 36, 45, 43, 51, 22, 53, 39, 33, 30, 24, 18, 12, 5, 63, 55, 48, 27, 60, 41, 37, 16, 46, 35, 44, 21, 52, 32, 23, 11, 54, 26, 40, 15, 34, 20, 31, 10, 25, 14, 19, 9, 13, 8, 7, 6]

/-- The table of package bits lies at the block of its number. -/
def Tab (w : World) : Prop := 1 < w.heap.size ∧ ∀ j x, deB[j]? = some x → w.cell? ⟨1, j, none⟩ = some (.int .u8 (x : Nat))
theorem Tab.mod {S : List Nat} {w w' : World} (h : Tab w) (hm : Mod S w w') (hs : 1 ∉ S) : Tab w' :=
  ⟨Nat.lt_of_lt_of_le h.1 hm.size, fun j x hj => (hm.cell h.1 hs).trans (h.2 j x hj)⟩

theorem deB_at (k : Nat) (h : k < 64) : deB[((IntKind.u64.wrap (2 ^ k * 285870213051353865)) / 288230376151711744).toNat]? = some k := by
  have h1 : ∀ k : Fin 64, deB[((IntKind.u64.wrap (2 ^ k.val * 285870213051353865)) / 288230376151711744).toNat]? = some k.val := by decide +kernel
  exact h1 ⟨k, h⟩

set_option maxHeartbeats 400000 in
theorem tz_is (x : Int) (k : Nat) (hx : (x == 0) = false) (hk : bits .and .u64 x (IntKind.u64.wrap (-x)) = 2 ^ k) (hk64 : k < 64) (w : World) (ht : Tab w) :
    Calls Tryz.prog 175 #[.int .u64 x] w fun e w' => e = .returned (.int .i64 k) ∧ w = w' := by
  have hc := ht.2 _ _ (deB_at k hk64)
  have hb : 0 ≤ IntKind.u64.wrap (2 ^ k * 285870213051353865) / 288230376151711744 ∧ IntKind.u64.wrap (2 ^ k * 285870213051353865) / 288230376151711744 < 64 := by
    show 0 ≤ (2 ^ k * 285870213051353865 : Int) % 18446744073709551616 / 288230376151711744 ∧ (2 ^ k * 285870213051353865 : Int) % 18446744073709551616 / 288230376151711744 < 64
    omega
  clear ht
  go_enter Tryz.func175, Tryz.ntmps175
  go_wp2_with fail
  go_ret
  exact ⟨rfl, rfl⟩

theorem first_none (w : World) : Calls Tryz.prog 179 #[.int .u64 0] w fun e w' => e = .returned (.tuple #[.int .i64 0, .bool false]) ∧ w = w' := by
  go_enter Tryz.func179, Tryz.ntmps179
  go_wp2_with fail
  go_ret2
  exact ⟨rfl, rfl⟩

theorem first_is (x : Int) (k : Nat) (hx : (x == 0) = false) (hk : bits .and .u64 x (IntKind.u64.wrap (-x)) = 2 ^ k) (hk64 : k < 64) (w : World) (ht : Tab w) :
    Calls Tryz.prog 179 #[.int .u64 x] w fun e w' => e = .returned (.tuple #[.int .i64 k, .bool true]) ∧ w = w' := by
  have HTZ := Lib.hid (tz_is x k hx hk hk64 w ht)
  clear hk ht
  go_enter Tryz.func179, Tryz.ntmps179
  go_wp2_with fail
  refine HTZ.out.mono ?_
  rintro e w1 ⟨rfl, rfl⟩
  go_wp2_with fail
  go_ret2
  exact ⟨rfl, rfl⟩

theorem nodes_is (b : Int) (w : World) : Calls Tryz.prog 144 #[.int .u64 b] w fun e w' =>
    e = .returned (.func (.func 174) #[] #[.pointer (some ⟨w.heap.size, 0, none⟩)]) ∧ w.alloc (.cells #[.int .u64 b] 22) = w' := by
  have hmf : ∀ fn first cap w, (Instr.makeFunc fn first cap).run Tryz.prog w = .ok (.func fn first cap) w := fun _ _ _ _ => rfl
  go_enter Tryz.func144, Tryz.ntmps144
  go_wp2_with fail
  go_ret
  exact ⟨rfl, rfl⟩

end Go.Proofs.YtpbamamplmbgjaaGreatDoor
