/-
  The walks of what a detector's Tick calls where it has no watch, no errand, no doubt and no other: slices.IndexFunc, DeleteFunc, Sort; doubt.All, Over; round.Next.
-/
import Derived.Test.YtpbamamplmbgjaaGreatDoorTopF
namespace Go.Proofs.YtpbamamplmbgjaaGreatDoor
set_option linter.unusedSimpArgs false
set_option linter.unusedVariables false
open Go.RowKit

set_option maxHeartbeats 1000000 in
theorem eindex_nil (f : Value) (w : World) : Calls Tryz.prog 135 #[.slice none 0 0, f] w fun e w' => e = .returned (.int .i64 (-1)) ∧ w = w' := by
  go_enter Tryz.func135, Tryz.ntmps135
  go_wp2_with fail
  refine wp_loop_rounds 1 ?_
  rw [rounds_succ]
  go_wp2
  go_ret
  exact ⟨rfl, rfl⟩

set_option maxHeartbeats 1000000 in
theorem edelete_nil (f : Value) (w : World) : Calls Tryz.prog 76 #[.slice none 0 0, f] w fun e w' => e = .returned (.slice none 0 0) ∧ w = w' := by
  go_enter Tryz.func76, Tryz.ntmps76
  go_wp2_with fail
  refine (eindex_nil f _).mono ?_
  rintro e w1 ⟨rfl, rfl⟩
  go_wp2
  go_ret
  exact ⟨rfl, rfl⟩

set_option maxRecDepth 100000 in
set_option maxHeartbeats 1000000 in
theorem len64_zero (w : World) : Calls Tryz.prog 161 #[.int .u64 0] w fun e w' => e = .returned (.int .i64 0) ∧ w = w' := by
  go_enter Tryz.func161, Tryz.ntmps161
  go_wp2_with fail
  go_ret
  exact ⟨ret_int (by kernel_rfl), rfl⟩

set_option maxHeartbeats 1000000 in
theorem len_zero (w : World) : Calls Tryz.prog 110 #[.int .u64 0] w fun e w' => e = .returned (.int .i64 0) ∧ w = w' := by
  go_enter Tryz.func110, Tryz.ntmps110
  go_wp2_with fail
  refine (len64_zero _).mono ?_
  rintro e w1 ⟨rfl, rfl⟩
  go_wp2_with fail
  go_ret
  exact ⟨rfl, rfl⟩

set_option maxHeartbeats 1000000 in
theorem iisort_nil (w : World) : Calls Tryz.prog 228 #[.slice none 0 0, .int .i64 0, .int .i64 0] w fun e w' => e = .returned (.tuple #[]) ∧ w = w' := by
  go_enter Tryz.func228, Tryz.ntmps228
  go_wp2_with fail
  refine wp_loop_rounds 1 ?_
  rw [rounds_succ]
  go_wp2_with fail
  refine bodyPost_end (results_none rfl _ _ _) rfl ?_
  exact ⟨rfl, rfl⟩

set_option maxRecDepth 100000 in
set_option maxHeartbeats 2000000 in
theorem ipdq_nil (n : Int) (w : World) : Calls Tryz.prog 162 #[.slice none 0 0, .int .i64 0, .int .i64 0, .int .i64 n] w fun e w' => e = .returned (.tuple #[]) ∧ w = w' := by
  go_enter Tryz.func162, Tryz.ntmps162
  go_wp2_with fail
  refine wp_loop_rounds 1 ?_
  rw [rounds_succ]
  go_wp2_with fail
  refine (iisort_nil _).mono ?_
  rintro e w1 ⟨rfl, rfl⟩
  go_wp2_with fail
  refine bodyPost_ret (results_none rfl _ _ _) rfl ?_
  exact ⟨rfl, rfl⟩

theorem isort_nil (w : World) : Calls Tryz.prog 111 #[.slice none 0 0] w fun e w' => e = .returned (.tuple #[]) ∧ w = w' := by
  go_enter Tryz.func111, Tryz.ntmps111
  go_wp2_with fail
  refine (len_zero _).mono ?_
  rintro e w1 ⟨rfl, rfl⟩
  go_wp2_with fail
  refine (ipdq_nil 0 _).mono ?_
  rintro e w1 ⟨rfl, rfl⟩
  go_wp2_with fail
  refine bodyPost_end (results_none rfl _ _ _) rfl ?_
  exact ⟨rfl, rfl⟩

theorem mrun_range_nil {P : Program} {t K E : TypeId} (ht : P.underlying t = some (.map K E)) (w : World) :
    (Instr.range t (.map none)).run P w = .ok (.pointer (some ⟨w.heap.size, 0, none⟩)) (w.alloc (.mapIter none 0 #[] 0)) := by
  simp [Instr.range, mrun_underlying ht, Sem.run_bind, Result.andThen, run_newObj_alloc]
theorem mrun_next_nil {P : Program} {w : World} {r c d : Nat} {s : Array Nat} {ty : TypeId} (hr : w.heap[r]? = some (.mapIter none c s d)) :
    (Instr.next (.pointer (some ⟨r, 0, none⟩)) false ty).run P w = .ok (.tuple #[.bool false]) w := by
  simp [Instr.next, Sem.run_bind, Result.andThen, mrun_getIter hr]

set_option maxRecDepth 100000 in
set_option maxHeartbeats 2000000 in
theorem dall_nil (d o : Nat) (w : World) (h : w.cell? ⟨d, o, none⟩ = some (.map none)) : Calls Tryz.prog 55 #[.pointer (some ⟨d, o, none⟩)] w fun e w' => e = .returned (.slice none 0 0) ∧ Mod [] w w' := by
  have hrg := fun w => mrun_range_nil (P := Tryz.prog) (t := 47) Tryz.underlying47 w
  have hnx := mrun_next_nil (P := Tryz.prog) (ty := 0) (heap_new w (.mapIter none 0 #[] 0))
  go_enter Tryz.func55, Tryz.ntmps55
  go_wp2_with fail
  refine wp_loop_rounds 1 ?_
  rw [rounds_succ]
  go_wp2_with fail
  refine (isort_nil _).mono ?_
  rintro e w1 ⟨rfl, rfl⟩
  go_wp2_with fail
  refine wp_loop_rounds 1 ?_
  rw [rounds_succ]
  go_wp2
  go_ret
  exact ⟨rfl, (Mod.refl _ _).alloc _⟩

set_option maxHeartbeats 2000000 in
theorem dover_nil (d o : Nat) (now : Int) (w : World) (h : w.cell? ⟨d, o, none⟩ = some (.map none)) : Calls Tryz.prog 17 #[.pointer (some ⟨d, o, none⟩), .int .u64 now] w fun e w' => e = .returned (.slice none 0 0) ∧ Mod [] w w' := by
  go_enter Tryz.func17, Tryz.ntmps17
  go_wp2_with fail
  refine (dall_nil d o _ h).mono ?_
  rintro e w1 ⟨rfl, hM⟩
  have HM := Lib.hid hM
  clear hM
  go_wp2_with fail
  refine wp_loop_rounds 1 ?_
  rw [rounds_succ]
  go_wp2
  go_ret
  exact ⟨rfl, HM.out⟩

set_option maxHeartbeats 2000000 in
theorem rnext_nil (p l : Value) (a : Option Addr) (c : Nat) (w : World) : Calls Tryz.prog 78 #[p, .slice a 0 c, l] w fun e w' => e = .returned (.tuple #[.int .i64 0, .bool false]) ∧ Mod [] w w' := by
  go_enter Tryz.func78, Tryz.ntmps78
  go_wp2
  refine bodyPost_ret (results_tmp2 rfl _ _ _) rfl ?_
  exact ⟨rfl, (Mod.refl _ _).alloc _⟩

end Go.Proofs.YtpbamamplmbgjaaGreatDoor
