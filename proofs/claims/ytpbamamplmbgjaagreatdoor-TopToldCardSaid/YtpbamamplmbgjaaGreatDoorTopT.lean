/-
  The walks of package turn: New, Frozen, Decided.
-/
import Derived.Test.YtpbamamplmbgjaaGreatDoorTopF
namespace Go.Proofs.YtpbamamplmbgjaaGreatDoor
set_option linter.unusedSimpArgs false
set_option linter.unusedVariables false
open Go.RowKit

/-- The cells of a turn that has just begun. -/
noncomputable def turnCells (n id ms : Int) : Array Value := ((Tryz.zeroCells151.setIfInBounds 4 (.int .i64 n)).setIfInBounds 5 (.int .u64 id)).setIfInBounds 6 (.int .u64 ms)
def Turn0 (w : World) (t : Nat) (n id ms : Int) : Prop := w.heap[t]? = some (.cells (turnCells n id ms) 151 (0, 0))
theorem Turn0.mod {S : List Nat} {w w' : World} {t : Nat} {n id ms : Int} (h : Turn0 w t n id ms) (hm : Mod S w w') (hs : t ∉ S) : Turn0 w' t n id ms := (hm.block t (Array.getElem?_eq_some_iff.1 h).1 hs).trans h
theorem Turn0.lt {w : World} {t : Nat} {n id ms : Int} (h : Turn0 w t n id ms) : t < w.heap.size := (Array.getElem?_eq_some_iff.1 h).1
theorem turnCells_size : (Tryz.zeroCells151).size = 215 := by kernel_rfl
theorem turnCells_other (n id ms : Int) (j : Nat) (v : Value) (h : Tryz.zeroCells151[j]? = some v) (h4 : j ≠ 4) (h5 : j ≠ 5) (h6 : j ≠ 6) : (turnCells n id ms)[j]? = some v := by
  unfold turnCells
  rw [Array.getElem?_setIfInBounds_ne (by omega), Array.getElem?_setIfInBounds_ne (by omega), Array.getElem?_setIfInBounds_ne (by omega), h]
theorem Turn0.c4 {w : World} {t : Nat} {n id ms : Int} (h : Turn0 w t n id ms) : w.cell? ⟨t, 4, none⟩ = some (.int .i64 n) := cell_in h (by
  unfold turnCells
  rw [Array.getElem?_setIfInBounds_ne (by omega), Array.getElem?_setIfInBounds_ne (by omega), Array.getElem?_setIfInBounds_self_of_lt (by rw [turnCells_size]; omega)])
theorem Turn0.c5 {w : World} {t : Nat} {n id ms : Int} (h : Turn0 w t n id ms) : w.cell? ⟨t, 5, none⟩ = some (.int .u64 id) := cell_in h (by
  unfold turnCells
  rw [Array.getElem?_setIfInBounds_ne (by omega), Array.getElem?_setIfInBounds_self_of_lt (by rw [Array.size_setIfInBounds, turnCells_size]; omega)])
theorem Turn0.c6 {w : World} {t : Nat} {n id ms : Int} (h : Turn0 w t n id ms) : w.cell? ⟨t, 6, none⟩ = some (.int .u64 ms) := cell_in h (by
  unfold turnCells
  rw [Array.getElem?_setIfInBounds_self_of_lt (by rw [Array.size_setIfInBounds, Array.size_setIfInBounds, turnCells_size]; omega)])
theorem Turn0.other {w : World} {t : Nat} {n id ms : Int} (h : Turn0 w t n id ms) (j : Nat) (v : Value) (hj : Tryz.zeroCells151[j]? = some v) (h4 : j ≠ 4) (h5 : j ≠ 5) (h6 : j ≠ 6) : w.cell? ⟨t, j, none⟩ = some v := cell_in h (turnCells_other n id ms j v hj h4 h5 h6)
theorem tc7 : Tryz.zeroCells151[7]? = some (.bool false) := by kernel_rfl
theorem tc8 : Tryz.zeroCells151[8]? = some (.int .u64 0) := by kernel_rfl
theorem tc211 : Tryz.zeroCells151[211]? = some (.bool false) := by kernel_rfl
theorem tc212 : Tryz.zeroCells151[212]? = some (.int .u64 0) := by kernel_rfl
theorem tc213 : Tryz.zeroCells151[213]? = some (.int .u64 0) := by kernel_rfl

def TurnNew (w : World) (n id ms : Int) (e : Ending) (w' : World) : Prop := ∃ t, e = .returned (.pointer (some ⟨t, 0, none⟩)) ∧ Turn0 w' t n id ms ∧ w.heap.size ≤ t ∧ Mod [] w w'

set_option maxRecDepth 100000 in
set_option maxHeartbeats 4000000 in
theorem turn_new (n : Nat) (id ms : Int) (w : World) (hn : n < 64) (hx : (bits .and .u64 ms (2 ^ n) != 0) = true) (hi : (id == 18446744073709551615) = false) :
    Calls Tryz.prog 18 #[.int .i64 n, .agg #[.int .u64 id, .int .u64 ms]] w (TurnNew w n id ms) := by
  go_enter Tryz.func18, Tryz.ntmps18
  go_wp2_with (go_at_call 44; refine (has_is ms n true hn hx _).mono ?_; rintro e w1 ⟨rfl, rfl⟩)
  go_ret
  refine ⟨w.heap.size + 1, rfl, ?_, by omega, ((Mod.refl [] _).alloc _).alloc _⟩
  have := heap_new (w.alloc (.cells #[.int .u64 id, .int .u64 ms] 57)) (.cells (turnCells n id ms) 151)
  rw [World.size_alloc] at this
  exact this

set_option maxHeartbeats 1000000 in
theorem turn_frozen (t : Nat) (n id ms : Int) (w : World) (h : Turn0 w t n id ms) :
    Calls Tryz.prog 287 #[.pointer (some ⟨t, 0, none⟩)] w fun e w' => e = .returned (.tuple #[.int .u64 0, .bool false]) ∧ Mod [] w w' := by
  have h7 := h.other 7 _ tc7 (by decide) (by decide) (by decide)
  have h8 := h.other 8 _ tc8 (by decide) (by decide) (by decide)
  clear h
  go_enter Tryz.func287, Tryz.ntmps287
  go_wp2_with fail
  go_region
  all_goals
    go_wp2
    refine bodyPost_ret (results_tmp2 rfl _ _ _) rfl ?_
    exact ⟨rfl, (Mod.refl _ _).drew⟩

theorem Tryz.size_choice : (Tryz.prog.info? 73).map (·.size) = some 2 := by kernel_rfl
set_option maxRecDepth 100000 in
set_option maxHeartbeats 2000000 in
theorem turn_decided (t : Nat) (n id ms : Int) (w : World) (h : Turn0 w t n id ms) :
    Calls Tryz.prog 22 #[.pointer (some ⟨t, 0, none⟩)] w fun e w' => e = .returned (.tuple #[.agg #[.int .u64 0, .int .u64 0], .bool false]) ∧ Mod [] w w' := by
  have h1 := h.other 211 _ tc211 (by decide) (by decide) (by decide)
  have h2 := h.other 212 _ tc212 (by decide) (by decide) (by decide)
  have h3 := h.other 213 _ tc213 (by decide) (by decide) (by decide)
  have hl := h.lt
  have hne : ¬ t = w.heap.size := by omega
  clear h
  go_enter Tryz.func22, Tryz.ntmps22
  go_wp2_with fail
  go_region
  all_goals
    go_wp2
    refine bodyPost_ret (results_row_tmp rfl _ _ w.heap.size 73 _ (0, 0) _ rfl (heap_new_drew _ _) Tryz.underlying73 rfl Tryz.size_choice) rfl ?_
    exact ⟨rfl, ((Mod.refl _ _).alloc _).drew⟩

end Go.Proofs.YtpbamamplmbgjaaGreatDoor
