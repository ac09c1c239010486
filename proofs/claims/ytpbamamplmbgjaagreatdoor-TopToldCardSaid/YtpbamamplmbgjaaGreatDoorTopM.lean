/-
  Maps of no entry and of one, keyed by ints: how the operations run.
-/
import Derived.Test.YtpbamamplmbgjaaGreatDoorTopD
namespace Go.Proofs.YtpbamamplmbgjaaGreatDoor
set_option linter.unusedSimpArgs false
set_option linter.unusedVariables false
open Go.RowKit
section
variable {P : Program} {w : World} {b : Nat} {t K E : TypeId}
theorem mrun_underlying {d : TypeDesc} (h : P.underlying t = some d) : (underlying t).run P w = .ok d w := by simp [underlying, h]
theorem mrun_getMap {es : Array MapEntry} {c : Nat} (h : w.heap[b]? = some (.map es c)) : (getObj b).run P w = .ok (.map es c) w := by simp [getObj, Sem.run, h]
theorem mrun_setMap {es : Array MapEntry} {c : Nat} (o : Obj) (h : w.heap[b]? = some (.map es c)) : (setObj b o).run P w = .ok () (w.putObj b o) := by simp [setObj, Sem.run, h, World.putObj]
theorem mrun_check (e : Bool) (k : Int) (hK : P.underlying K = some (.int .i64)) : (Instr.checkKey e 10000 K (.int .i64 k)).run P w = .ok () w := by
  show (Instr.checkKey e (9999 + 1) K (.int .i64 k)).run P w = .ok () w
  rw [Instr.checkKey]
  simp [mrun_underlying hK, Sem.run_bind, Result.andThen]
theorem mrun_find_none (k : Int) (hK : P.underlying K = some (.int .i64)) : (Instr.findKey K (.int .i64 k) []).run P w = .ok none w := by
  simp [Instr.findKey, mrun_underlying hK, Sem.run_bind, Result.andThen, Instr.findNow]
theorem mrun_find_one (k : Int) (v : Value) (n : Nat) (hK : P.underlying K = some (.int .i64)) : (Instr.findKey K (.int .i64 k) [{ key := .int .i64 k, val := v, born := n }]).run P w = .ok (some (0, v)) w := by
  simp [Instr.findKey, mrun_underlying hK, Sem.run_bind, Result.andThen, Instr.findNow, Instr.sameNow]
theorem mrun_update_new {c : Nat} {k : Int} {v : Value} (ht : P.underlying t = some (.map K E)) (hK : P.underlying K = some (.int .i64)) (h : w.heap[b]? = some (.map #[] c)) :
    (Instr.mapUpdate t (.map (some b)) (.int .i64 k) v).run P w = .ok () (w.putObj b (.map #[{ key := .int .i64 k, val := v, born := c }] (c + 1))) := by
  simp [Instr.mapUpdate, mrun_underlying ht, Sem.run_bind, Result.andThen, mrun_getMap h, mrun_check _ _ hK, mrun_find_none _ hK, mrun_setMap _ h]
theorem mrun_update_one {c n : Nat} {k : Int} {u v : Value} (ht : P.underlying t = some (.map K E)) (hK : P.underlying K = some (.int .i64)) (h : w.heap[b]? = some (.map #[{ key := .int .i64 k, val := u, born := n }] c)) :
    (Instr.mapUpdate t (.map (some b)) (.int .i64 k) v).run P w = .ok () (w.putObj b (.map #[{ key := .int .i64 k, val := v, born := n }] c)) := by
  simp [Instr.mapUpdate, mrun_underlying ht, Sem.run_bind, Result.andThen, mrun_getMap h, mrun_check _ _ hK, mrun_find_one _ _ _ hK, mrun_setMap _ h, Instr.keyThatStays, Instr.sameBits]
theorem mrun_look_one {c n : Nat} {k : Int} {u : Value} (ht : P.underlying t = some (.map K E)) (hK : P.underlying K = some (.int .i64)) (h : w.heap[b]? = some (.map #[{ key := .int .i64 k, val := u, born := n }] c)) :
    (Instr.lookup t (.map (some b)) (.int .i64 k) true).run P w = .ok (.tuple #[u, .bool true]) w := by
  simp [Instr.lookup, mrun_underlying ht, Sem.run_bind, Result.andThen, mrun_getMap h, mrun_check _ _ hK, mrun_find_one _ _ _ hK]
theorem mrun_look_nil {k : Int} {z : Value} (ht : P.underlying t = some (.map K E)) (hK : P.underlying K = some (.int .i64)) (hz : (zeroValue E).run P w = .ok z w) :
    (Instr.lookup t (.map none) (.int .i64 k) true).run P w = .ok (.tuple #[z, .bool false]) w := by
  simp [Instr.lookup, mrun_underlying ht, Sem.run_bind, Result.andThen, mrun_check _ _ hK, mrun_find_none _ hK, hz]
theorem mrun_delete_one {c n : Nat} {k : Int} {u : Value} {t2 t3 : TypeId} (ht : P.underlying t = some (.map K E)) (hK : P.underlying K = some (.int .i64)) (h : w.heap[b]? = some (.map #[{ key := .int .i64 k, val := u, born := n }] c)) :
    (Builtin.delete_ #[t, t2] t3 #[.map (some b), .int .i64 k]).run P w = .ok (.tuple #[]) (w.putObj b (.map #[] c)) := by
  simp [Builtin.delete_, mrun_underlying ht, Sem.run_bind, Result.andThen, mrun_getMap h, mrun_check _ _ hK, mrun_find_one _ _ _ hK, mrun_setMap _ h]
theorem mrun_look_plain {c n : Nat} {k : Int} {u : Value} (ht : P.underlying t = some (.map K E)) (hK : P.underlying K = some (.int .i64)) (h : w.heap[b]? = some (.map #[{ key := .int .i64 k, val := u, born := n }] c)) :
    (Instr.lookup t (.map (some b)) (.int .i64 k) false).run P w = .ok u w := by
  simp [Instr.lookup, mrun_underlying ht, Sem.run_bind, Result.andThen, mrun_getMap h, mrun_check _ _ hK, mrun_find_one _ _ _ hK]
theorem mrun_len {c : Nat} {es : Array MapEntry} {t3 : TypeId} (ht : P.underlying t = some (.map K E)) (h : w.heap[b]? = some (.map es c)) :
    (Builtin.len_ #[t] t3 #[.map (some b)]).run P w = .ok (.int .i64 es.size) w := by
  simp [Builtin.len_, mrun_underlying ht, Sem.run_bind, Result.andThen, mrun_getMap h]
  rfl
theorem mrun_range {c : Nat} {es : Array MapEntry} (ht : P.underlying t = some (.map K E)) (h : w.heap[b]? = some (.map es c)) :
    (Instr.range t (.map (some b))).run P w = .ok (.pointer (some ⟨w.heap.size, 0, none⟩)) (w.alloc (.mapIter (some b) c #[] c)) := by
  simp [Instr.range, mrun_underlying ht, Sem.run_bind, Result.andThen, mrun_getMap h, run_newObj_alloc]
theorem mrun_getIter {r c d : Nat} {m : Option Nat} {seen : Array Nat} (h : w.heap[r]? = some (.mapIter m c seen d)) : (getObj r).run P w = .ok (.mapIter m c seen d) w := by simp [getObj, Sem.run, h]
theorem mrun_setIter {r c d : Nat} {m : Option Nat} {seen : Array Nat} (o : Obj) (h : w.heap[r]? = some (.mapIter m c seen d)) : (setObj r o).run P w = .ok () (w.putObj r o) := by simp [setObj, Sem.run, h, World.putObj]
theorem mrun_next_one {r c n : Nat} {k : Value} {u : Value} {ty : TypeId} (hr : w.heap[r]? = some (.mapIter (some b) c #[] c)) (hn : n < c) (h : w.heap[b]? = some (.map #[{ key := k, val := u, born := n }] c)) :
    (Instr.next (.pointer (some ⟨r, 0, none⟩)) false ty).run P w = .ok (.tuple #[.bool true, k, u]) (w.putObj r (.mapIter (some b) c #[n] c)) := by
  have hc : ¬ c ≤ n := by omega
  have hq : (Question.mapNext 1).forced = true := rfl
  have hs := mrun_setIter (P := P) (.mapIter (some b) c #[n] c) hr
  simp [Instr.next, Sem.run_bind, Result.andThen, mrun_getIter hr, mrun_getMap h, hn, hc, hq, choose, Sem.run, hs]
theorem mrun_next_end {r c n : Nat} {k : Value} {u : Value} {ty : TypeId} (hr : w.heap[r]? = some (.mapIter (some b) c #[n] c)) (hn : n < c) (h : w.heap[b]? = some (.map #[{ key := k, val := u, born := n }] c)) :
    (Instr.next (.pointer (some ⟨r, 0, none⟩)) false ty).run P w = .ok (.tuple #[.bool false]) w := by
  have hc : ¬ c ≤ n := by omega
  simp [Instr.next, Sem.run_bind, Result.andThen, mrun_getIter hr, mrun_getMap h, hn, hc, show (Question.mapNext 1).forced = true from rfl, choose, Sem.run]
theorem mrun_entry_one {r c n : Nat} {k : Value} {u : Value} (hr : w.heap[r]? = some (.mapIter (some b) c #[n] c)) (h : w.heap[b]? = some (.map #[{ key := k, val := u, born := n }] c)) :
    (Instr.entry (.pointer (some ⟨r, 0, none⟩))).run P w = .ok (.tuple #[k, u]) w := by
  simp [Instr.entry, Sem.run_bind, Result.andThen, mrun_getIter hr, mrun_getMap h]
end

end Go.Proofs.YtpbamamplmbgjaaGreatDoor
