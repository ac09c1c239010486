/-
  The walk of mend.Stable at one member.
-/
import Derived.Test.YtpbamamplmbgjaaGreatDoorTopF
namespace Go.Proofs.YtpbamamplmbgjaaGreatDoor
set_option linter.unusedSimpArgs false
set_option linter.unusedVariables false
open Go.RowKit

theorem results_int {P : Program} {fn : Func} {p : Tmp} {ty : TypeId} {k : IntKind} (h : fn.results = #[.cell p ty]) (tmps : Array Value) (w : World) (a : Addr) (v : Value) (hp : tmps.getD p undef = .pointer (some a)) (hu : P.underlying ty = some (.int k)) (hc : w.cell? a = some v) : (results fn tmps).run P w = .ok v w := by
  have hp' : tmps[p]?.getD undef = .pointer (some a) := by simpa using hp
  have hr : Sem.run P (underlying ty) w = .ok (.int k) w := by simp [underlying, hu]
  simp [results, h, hp', asAddr, loadVar, isAgg, hr, hc, go_sem]

theorem stable1 (n : Int) (a : Value) (w : World) :
    Calls Tryz.prog 298 #[.int .u64 n, .bool true, a] w fun e w' => e = .returned (.int .u64 n) ∧ w' = w := by
  go_enter Tryz.func298, Tryz.ntmps298
  go_wp2
  go_ret
  exact ⟨rfl, rfl⟩

set_option maxRecDepth 100000 in
set_option maxHeartbeats 4000000 in
theorem stable_one (b n c : Nat) (x : Int) (w : World) (ht : Tab w) (hb : w.heap[b]? = some (.map #[{ key := .int .i64 0, val := .int .u64 x, born := n }] c)) :
    Calls Tryz.prog 259 #[.int .u64 1, .map (some b)] w fun e w' => e = .returned (.int .u64 x) ∧ Mod [] w w' := by
  have hmf : ∀ fn first cap w, (Instr.makeFunc fn first cap).run Tryz.prog w = .ok (.func fn first cap) w := fun _ _ _ _ => rfl
  have HT := Lib.hid ht
  have HB := Lib.hid hb
  clear ht hb
  go_enter Tryz.func259, Tryz.ntmps259
  go_wp2_with fail
  refine (blist_is 1 [0] bits_one (by decide) _ (HT.out.mod ((Mod.refl [] _).alloc _) (by simp))).mono ?_
  rintro e w1 ⟨v, rfl, hO, hM⟩
  obtain ⟨a, cc, rfl, hr, hnc, _⟩ := hO.shape
  obtain ⟨ad, rfl, hlt, hc⟩ := hr (by simp)
  have c0 := hc 0 0 rfl
  simp only [Addr.add, if_true] at c0
  have hm1 : w1.heap[b]? = some (.map #[{ key := .int .i64 0, val := .int .u64 x, born := n }] c) := row_keep (((Mod.refl [] w).alloc _).trans hM) HB.out
  have hrow : w1.heap[w.heap.size]? = some (.cells #[.int .u64 0] 22 (0, 0)) := row_keep hM (heap_new w _)
  have g0 : w1.cell? ⟨w.heap.size, 0, none⟩ = some (.int .u64 0) := cell_in hrow rfl
  have g1 : w1.frozen? ⟨w.heap.size, 0, none⟩ = false := free_in hrow
  have hlk := mrun_look_one (P := Tryz.prog) (t := 260) Tryz.underlying260 Tryz.underlying3 hm1
  have HM := Lib.hid (((Mod.refl [] w).alloc (.cells #[.int .u64 0] 22)).trans hM)
  clear hO hr hnc hc hM hm1 hrow
  go_wp2_with fail
  refine wp_loop_rounds 2 ?_
  rw [rounds_succ]
  go_wp2_with fail
  refine (stable1 x _ _).mono ?_
  rintro e w2 ⟨rfl, rfl⟩
  go_wp2_with fail
  rw [rounds_succ]
  go_wp2
  refine bodyPost_ret (results_int rfl _ _ _ _ rfl Tryz.underlying22 (cell_set_same (cell_set_same g0))) rfl ?_
  exact ⟨rfl, (HM.out.setCell (.inr (by simp)) _).setCell (.inr (by simp)) _⟩

end Go.Proofs.YtpbamamplmbgjaaGreatDoor
