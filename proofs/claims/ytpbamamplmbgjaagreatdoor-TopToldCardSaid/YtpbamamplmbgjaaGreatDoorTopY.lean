/-
  The walks of conventicleref19: Same at one text, delivered.
-/
import Derived.Test.YtpbamamplmbgjaaGreatDoorTopN
namespace Go.Proofs.YtpbamamplmbgjaaGreatDoor
set_option linter.unusedSimpArgs false
set_option linter.unusedVariables false
open Go.RowKit

set_option maxHeartbeats 4000000 in
theorem rsame_one (a b : Addr) (c d : Nat) (t : ByteArray) (w : World) (ha : w.cell? a = some (.string t)) (hb : w.cell? b = some (.string t)) :
    Calls Tryz.prog 39 #[.slice (some a) 1 c, .slice (some b) 1 d] w fun e w' => e = .returned (.bool true) ∧ Mod [] w w' := by
  have hneq : ∀ w : World, (binOp .neq 9 (.string t) (.string t)).run Tryz.prog w = .ok (.bool false) w := fun w => by simp [binOp, Op.stringOp, go_sem]
  have hla := block_lt_of_cell ha
  have hlb := block_lt_of_cell hb
  go_enter Tryz.func39, Tryz.ntmps39
  go_wp2_with fail
  refine wp_loop_rounds 2 ?_
  rw [rounds_succ]
  go_wp2_with fail
  go_region
  all_goals
    go_wp2_with fail
    rw [rounds_succ]
    go_wp2
    go_ret
    exact ⟨rfl, (Mod.refl [] _).drew⟩

/-- An entry of a trace, as cells: its node, whether it was sent, the event. -/
def entV (node : Int) (sent : Bool) (kind id ms n s num : Int) (t : ByteArray) : Value :=
  .agg #[.int .i64 node, .bool sent, .int .i64 kind, .int .u64 id, .int .u64 ms, .int .u64 n, .int .i64 s, .int .u64 num, .string t]

set_option maxHeartbeats 4000000 in
theorem rdelivered_is (node : Int) (sent : Bool) (kind id ms n s num : Int) (t : ByteArray) (w : World) :
    Calls Tryz.prog 98 #[.agg #[.int .i64 node, .bool sent, .int .i64 kind, .int .u64 id, .int .u64 ms, .int .u64 n, .int .i64 s, .int .u64 num, .string t]] w fun e w' => e = .returned (.bool (!sent && (kind == 2))) ∧ Mod [] w w' := by
  cases sent
  all_goals
    go_enter Tryz.func98, Tryz.ntmps98
    go_wp2
    go_ret
    exact ⟨by simp, (Mod.refl [] _).alloc _⟩

end Go.Proofs.YtpbamamplmbgjaaGreatDoor
