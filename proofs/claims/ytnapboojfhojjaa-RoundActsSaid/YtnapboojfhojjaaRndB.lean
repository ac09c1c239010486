/-
  The walks of conventicleref05: node, Has, List.
-/
import Derived.Test.YtnapboojfhojjaaLotA
import Derived.Test.YtnapboojfhojjaaOwned
import Derived.WalkSmall
namespace Go.Proofs.Ytnapboojfhojjaa
open Go.RowKit

set_option maxHeartbeats 400000 in
theorem bnode_any (n : Nat) (hn : n < 64) (w : World) : Calls Try.prog 33 #[.int .i64 n] w fun e w' => e = .returned (.bool true) ∧ w = w' := by
  go_enter Try.func33, Try.ntmps33
  go_wp2
  go_ret
  exact ⟨by simp; omega, rfl⟩

/-- Does b bear n? -/
def bit (b : Int) (n : Nat) : Bool := b / 2 ^ n % 2 == 1

set_option maxHeartbeats 400000 in
theorem has_any (b : Int) (n : Nat) (b0 : 0 ≤ b) (b1 : b ≤ 18446744073709551615) (hn : n < 64) (w : World) : Calls Try.prog 18 #[.int .u64 b, .int .i64 n] w fun e w' => e = .returned (.bool (bit b n)) ∧ w = w' := by
  go_enter Try.func18, Try.ntmps18
  go_wp2_with fail
  refine (bnode_any n hn _).mono ?_
  rintro e w1 ⟨rfl, rfl⟩
  have hq0 : 0 ≤ b / 2 ^ n := Int.ediv_nonneg b0 (Int.pow_nonneg (by omega))
  have hq1 : b / 2 ^ n ≤ 18446744073709551615 := Int.le_trans (Int.ediv_le_self _ b0) b1
  have hand := and_one_u64 (b / 2 ^ n) hq0 hq1
  have HQ := Lib.hid (And.intro hq0 hq1)
  clear hq0 hq1
  go_wp2_with fail
  go_ret
  exact ⟨rfl, rfl⟩

theorem has_is (b : Int) (n : Nat) (x : Bool) (b0 : 0 ≤ b) (b1 : b ≤ 18446744073709551615) (hn : n < 64) (hx : bit b n = x) (w : World) : Calls Try.prog 18 #[.int .u64 b, .int .i64 n] w fun e w' => e = .returned (.bool x) ∧ w = w' :=
  hx ▸ has_any b n b0 b1 hn w

def listTo (b : Int) (n : Nat) : List Int := ((List.range n).filter (bit b)).map fun (j : Nat) => (j : Int)
theorem listTo_yes {b : Int} {n : Nat} (h : bit b n = true) : listTo b (n + 1) = listTo b n ++ [(n : Int)] := by
  unfold listTo
  rw [List.range_succ, List.filter_append, List.map_append]
  simp [h]
theorem listTo_no {b : Int} {n : Nat} (h : bit b n = false) : listTo b (n + 1) = listTo b n := by
  unfold listTo
  rw [List.range_succ, List.filter_append, List.map_append]
  simp [h]
theorem listTo_len (b : Int) (n : Nat) : (listTo b n).length ≤ n := by
  unfold listTo
  rw [List.length_map]
  exact Nat.le_trans (List.length_filter_le _ _) (by simp)
theorem listTo_mem (b : Int) (n : Nat) (x : Int) : x ∈ listTo b n ↔ ∃ j : Nat, j < n ∧ bit b j = true ∧ (j : Int) = x := by
  unfold listTo
  simp
  constructor
  · rintro ⟨a, ⟨h1, h2⟩, h3⟩
    exact ⟨a, h1, h2, h3⟩
  · rintro ⟨a, h1, h2, h3⟩
    exact ⟨a, ⟨h1, h2⟩, h3⟩
theorem listTo_nodup (b : Int) (n : Nat) : (listTo b n).Nodup := by
  unfold listTo
  unfold List.Nodup
  rw [List.pairwise_map]
  exact (List.Pairwise.filter _ (show (List.range n).Pairwise (· ≠ ·) from List.nodup_range)).imp fun h e => h (by omega)

def ListPost (w : World) (b : Int) (e : Ending) (w' : World) : Prop := ∃ v, e = .returned v ∧ Owned .i64 3 w' w.heap.size v (listTo b 64) ∧ Mod [] w w'

def ListRel (w : World) (b : Int) (v u : Value) (wr : World) : Prop := ∃ n : Nat, u = .int .i64 n ∧ n ≤ 64 ∧ Owned .i64 3 wr w.heap.size v (listTo b n) ∧ Mod [] w wr

theorem grown_ge {a w w' : World} {r : Option Nat} (h : Mod [] a w) (hg : w.grownBy w' r) (hs : ∀ b, r = some b → a.heap.size ≤ b) : Mod [] a w' :=
  ⟨hg.os.trans h.os, hg.tape.trans h.tape, hg.output.trans h.output, Nat.le_trans h.size hg.size, fun k hk hks => (hg.block k (Nat.lt_of_lt_of_le hk h.size) (fun e => by
    have := hs k e.symm
    omega)).trans (h.block k hk hks)⟩

set_option maxHeartbeats 2000000 in
theorem list_any (b : Int) (b0 : 0 ≤ b) (b1 : b ≤ 18446744073709551615) (w : World) : Calls Try.prog 6 #[.int .u64 b] w (ListPost w b) := by
  go_enter Try.func6, Try.ntmps6
  go_wp2_with fail
  go_loopw [3, 4] (fun v u wr => ListRel w b v u wr) (fun _ u _ => 64 - (intOf u).toNat)
  case atStart => exact ⟨0, rfl, by omega, Owned.empty _ (heap_new _ _) (Nat.le_refl _), (Mod.refl _ _).alloc _⟩
  case round =>
    rename_i wq
    obtain ⟨n, rfl, hn, hO, hM⟩ := hrel
    have HO := Lib.hid hO
    have HM := Lib.hid hM
    clear hO hM
    by_cases hlt : (n : Int) < 64
    · have hlt' : n < 64 := by omega
      cases hb : bit b n with
      | false =>
        have HB := Lib.hid hb
        clear hb
        go_wp2_with fail
        refine (has_is b n false b0 b1 hlt' HB.out _).mono ?_
        rintro e w1 ⟨rfl, rfl⟩
        go_wp2_with fail
        go_roundw
        case rel => exact ⟨n + 1, by go_num, by omega, by rw [listTo_no HB.out]; exact HO.out, HM.out⟩
        case measure => simp [intOf]; omega
      | true =>
        have HB := Lib.hid hb
        clear hb
        go_wp2_with fail
        refine (has_is b n true b0 b1 hlt' HB.out _).mono ?_
        rintro e w1 ⟨rfl, rfl⟩
        go_wp2_with (at_builtin; with_reducible refine wpList_append_rd rfl _ _ 26 rfl w.heap.size 3 .i64 8 Try.underlying26 Try.info_int _ (listTo b n) rfl (HO.out.mod ((Mod.refl [] _).alloc _) (by simp)) _ _ [(n : Int)] rfl ?o1 (by simp) ?o2 ?o3 ?o4 ?o5)
        case o1 => exact RdInts.of_row (heap_new _ _)
        case o2 => have := listTo_len b n; simp [maxLen]; omega
        case o3 => have := listTo_len b n; simp; omega
        case o4 => have := HM.out.size; simp; omega
        case o5 =>
          intro v' w2 hO2 hgr _
          rw [← listTo_yes HB.out] at hO2
          have HO2 := Lib.hid hO2
          have HM2 := Lib.hid (grown_ge (HM.out.alloc _) hgr (fun b hb => (HO.out.own_ge b hb).1))
          clear hO2 hgr
          go_wp2_with fail
          go_roundw
          case rel => exact ⟨n + 1, by go_num, by omega, HO2.out, HM2.out⟩
          case measure => simp [intOf]; omega
    · obtain rfl : n = 64 := by omega
      go_wp2_with fail
      go_ret
      exact ⟨_, rfl, HO.out, HM.out⟩

end Go.Proofs.Ytnapboojfhojjaa
