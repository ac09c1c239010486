/-
  A cloud of one node: Node, and what its block holds.
-/
import Derived.Test.YtpbamamplmbgjaaGreatDoorTopN
namespace Go.Proofs.YtpbamamplmbgjaaGreatDoor
set_option linter.unusedSimpArgs false
set_option linter.unusedVariables false
open Go.RowKit

/-- A cloud of one at block c: its node, its lots' pointer, its trace. -/
structure CloudAt (w : World) (c N : Nat) (l tr : Value) : Prop where
  c0 : w.cell? ⟨c, 0, none⟩ = some (.pointer (some ⟨N, 0, none⟩))
  n : w.cell? ⟨c, 64, none⟩ = some (.int .i64 1)
  up : w.cell? ⟨c, 65, none⟩ = some (.int .u64 1)
  bag : w.cell? ⟨c, 66, none⟩ = some (.slice none 0 0)
  lots : w.cell? ⟨c, 67, none⟩ = some l
  trace : w.cell? ⟨c, 68, none⟩ = some tr
  free : ∀ j, w.frozen? ⟨c, j, none⟩ = false

theorem CloudAt.lt {w : World} {c N : Nat} {l tr : Value} (h : CloudAt w c N l tr) : c < w.heap.size := block_lt_of_cell h.c0
theorem CloudAt.mod {S : List Nat} {w w' : World} {c N : Nat} {l tr : Value} (h : CloudAt w c N l tr) (hm : Mod S w w') (hs : c ∉ S) : CloudAt w' c N l tr :=
  ⟨hm.at h.c0 hs, hm.at h.n hs, hm.at h.up hs, hm.at h.bag hs, hm.at h.lots hs, hm.at h.trace hs, fun j => (hm.frozen (by exact h.lt) hs).trans (h.free j)⟩
theorem CloudAt.setTrace {w : World} {c N : Nat} {l tr : Value} (h : CloudAt w c N l tr) (v : Value) : CloudAt (w.setCell ⟨c, 68, none⟩ v) c N l v := by
  refine ⟨?_, ?_, ?_, ?_, ?_, cell_set_same h.trace, fun j => (frozen_set _ _ _ _).trans (h.free j)⟩
  · rw [cell_set_off _ _ _ _ (by simp)]; exact h.c0
  · rw [cell_set_off _ _ _ _ (by simp)]; exact h.n
  · rw [cell_set_off _ _ _ _ (by simp)]; exact h.up
  · rw [cell_set_off _ _ _ _ (by simp)]; exact h.bag
  · rw [cell_set_off _ _ _ _ (by simp)]; exact h.lots

set_option maxHeartbeats 2000000 in
theorem cnode0 (c N : Nat) (l tr : Value) (w : World) (h : CloudAt w c N l tr) :
    Calls Tryz.prog 34 #[.pointer (some ⟨c, 0, none⟩), .int .i64 0] w fun e w' => e = .returned (.pointer (some ⟨N, 0, none⟩)) ∧ w' = w := by
  have c0 := h.c0
  have n := h.n
  clear h
  go_enter Tryz.func34, Tryz.ntmps34
  go_wp2
  go_ret
  exact ⟨rfl, rfl⟩

theorem cput_nil (p : Value) (a : Option Addr) (c : Nat) (w : World) :
    Calls Tryz.prog 150 #[p, .slice a 0 c] w fun e w' => e = .returned (.tuple #[]) ∧ w' = w := by
  go_enter Tryz.func150, Tryz.ntmps150
  go_wp2_with fail
  refine wp_loop_rounds 1 ?_
  rw [rounds_succ]
  go_wp2
  refine bodyPost_end (results_none rfl _ _ _) rfl ?_
  exact ⟨rfl, rfl⟩

end Go.Proofs.YtpbamamplmbgjaaGreatDoor
