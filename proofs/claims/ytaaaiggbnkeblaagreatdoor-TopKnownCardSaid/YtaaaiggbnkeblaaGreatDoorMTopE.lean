/-
  The walks of package roll: put, New, Mine, Get.
  The walks of package roll: Mine, Get; of rank.
  The walk of roll.Hear: of itself and no news; All, Live, Others of a roll that knows itself alone.
  Maps of no entry and of one, keyed by ints: how the operations run.
  The walks of slices.SortFunc at one item, of bits.Len at 1; of rumor.Queue: Put at a queue of none, Items at one.
-/
import Derived.Test.YtaaaiggbnkeblaaGreatDoorMBase
import Derived.Deep.RegionWith
import Derived.Deep.RegionHeld3
import Derived.Laws.ResultCell
import Derived.Laws.Rows
import Derived.Deep.QuietTactic
import Derived.BigQuiet
import Derived.OwnWalk
namespace Go.Proofs.YtaaaiggbnkeblaaGreatDoor
set_option linter.unusedSimpArgs false
set_option linter.unusedVariables false
open Go.RowKit

/-- A roll at block r: whose it is, what it knows (node, number, state), of whom. -/
structure RollAt (w : World) (r : Nat) (me : Int) (f : Nat → Int × Int × Int) (has : Int) : Prop where
  lt : r < w.heap.size
  me : w.cell? ⟨r, 0, none⟩ = some (.int .i64 me)
  node : ∀ n, n < 64 → w.cell? ⟨r, 1 + n * 3, none⟩ = some (.int .i64 (f n).1)
  inc : ∀ n, n < 64 → w.cell? ⟨r, 1 + n * 3 + 1, none⟩ = some (.int .u64 (f n).2.1)
  state : ∀ n, n < 64 → w.cell? ⟨r, 1 + n * 3 + 2, none⟩ = some (.int .i64 (f n).2.2)
  has : w.cell? ⟨r, 193, none⟩ = some (.int .u64 has)
  free : ∀ j, w.frozen? ⟨r, j, none⟩ = false

theorem RollAt.mod {S : List Nat} {w w' : World} {r : Nat} {me : Int} {f : Nat → Int × Int × Int} {has : Int} (h : RollAt w r me f has) (hm : Mod S w w') (hs : r ∉ S) : RollAt w' r me f has :=
  ⟨Nat.lt_of_lt_of_le h.lt hm.size, (hm.cell h.lt hs).trans h.me, fun n hn => (hm.cell h.lt hs).trans (h.node n hn), fun n hn => (hm.cell h.lt hs).trans (h.inc n hn), fun n hn => (hm.cell h.lt hs).trans (h.state n hn), (hm.cell h.lt hs).trans h.has, fun j => (hm.frozen h.lt hs).trans (h.free j)⟩

def rollPut (f : Nat → Int × Int × Int) (n : Nat) (u : Int × Int × Int) : Nat → Int × Int × Int := fun k => if k = n then u else f k

theorem cell_is_some {w : World} {p : Addr} {v : Value} (h : w.cell? p = some v) : (w.cell? p).isSome = true := by rw [h]; rfl

theorem RollAt.set3 {w : World} {r n : Nat} {me has inc st : Int} {f : Nat → Int × Int × Int} (h : RollAt w r me f has) (hn : n < 64) :
    RollAt (((w.setCell ⟨r, 1 + n * 3, none⟩ (.int .i64 n)).setCell ⟨r, 1 + n * 3 + 1, none⟩ (.int .u64 inc)).setCell ⟨r, 1 + n * 3 + 2, none⟩ (.int .i64 st)) r me (rollPut f n (n, inc, st)) has := by
  have s2 : ∀ (w : World) v u, w.cell? ⟨r, 1 + n * 3 + 1, none⟩ = some v → (w.setCell ⟨r, 1 + n * 3 + 1, none⟩ u).cell? ⟨r, 1 + n * 3 + 1, none⟩ = some u := fun w v u h => cell_set_same h
  refine ⟨by simpa [World.setCell] using h.lt, ?_, fun k hk => ?_, fun k hk => ?_, fun k hk => ?_, ?_, fun j => ?_⟩
  · rw [cell_set_off _ _ _ _ (by first | (simp; done) | (simp; omega)), cell_set_off _ _ _ _ (by first | (simp; done) | (simp; omega)), cell_set_off _ _ _ _ (by first | (simp; done) | (simp; omega))]; exact h.me
  · by_cases e : k = n
    · subst e
      rw [cell_set_off _ _ _ _ (by first | (simp; done) | (simp; omega)), cell_set_off _ _ _ _ (by first | (simp; done) | (simp; omega)), cell_set_same (h.node k hk)]
      simp [rollPut]
    · rw [cell_set_off _ _ _ _ (by first | (simp; done) | (simp; omega)), cell_set_off _ _ _ _ (by first | (simp; done) | (simp; omega)), cell_set_off _ _ _ _ (by first | (simp; done) | (simp; omega)), h.node k hk]
      simp [rollPut, e]
  · by_cases e : k = n
    · subst e
      rw [cell_set_off _ _ _ _ (by first | (simp; done) | (simp; omega)), cell_set_same ((cell_set_off _ _ _ _ (by first | (simp; done) | (simp; omega))).trans (h.inc k hk))]
      simp [rollPut]
    · rw [cell_set_off _ _ _ _ (by first | (simp; done) | (simp; omega)), cell_set_off _ _ _ _ (by first | (simp; done) | (simp; omega)), cell_set_off _ _ _ _ (by first | (simp; done) | (simp; omega)), h.inc k hk]
      simp [rollPut, e]
  · by_cases e : k = n
    · subst e
      rw [cell_set_same ((cell_set_off _ _ _ _ (by first | (simp; done) | (simp; omega))).trans ((cell_set_off _ _ _ _ (by first | (simp; done) | (simp; omega))).trans (h.state k hk)))]
      simp [rollPut]
    · rw [cell_set_off _ _ _ _ (by first | (simp; done) | (simp; omega)), cell_set_off _ _ _ _ (by first | (simp; done) | (simp; omega)), cell_set_off _ _ _ _ (by first | (simp; done) | (simp; omega)), h.state k hk]
      simp [rollPut, e]
  · rw [cell_set_off _ _ _ _ (by first | (simp; done) | (simp; omega)), cell_set_off _ _ _ _ (by first | (simp; done) | (simp; omega)), cell_set_off _ _ _ _ (by first | (simp; done) | (simp; omega))]; exact h.has
  · simpa using h.free j
theorem RollAt.setHas {w : World} {r : Nat} {me has has' : Int} {f : Nat → Int × Int × Int} (h : RollAt w r me f has) : RollAt (w.setCell ⟨r, 193, none⟩ (.int .u64 has')) r me f has' := by
  refine ⟨by simpa [World.setCell] using h.lt, ?_, fun k hk => ?_, fun k hk => ?_, fun k hk => ?_, cell_set_same h.has, fun j => by simpa using h.free j⟩
  · rw [cell_set_off _ _ _ _ (by simp)]; exact h.me
  · rw [cell_set_off _ _ _ _ (by first | (simp; done) | (simp; omega))]; exact h.node k hk
  · rw [cell_set_off _ _ _ _ (by first | (simp; done) | (simp; omega))]; exact h.inc k hk
  · rw [cell_set_off _ _ _ _ (by first | (simp; done) | (simp; omega))]; exact h.state k hk

set_option maxHeartbeats 4000000 in
theorem put_any (r n : Nat) (me inc st has has' : Int) (f : Nat → Int × Int × Int) (w : World) (h : RollAt w r me f has) (hn : n < 64) (hor : bits .or .u64 has (2 ^ n) = has') :
    Calls Tryz.prog 94 #[.pointer (some ⟨r, 0, none⟩), .agg #[.int .i64 n, .int .u64 inc, .int .i64 st]] w fun e w' => e = .returned (.tuple #[]) ∧ RollAt w' r me (rollPut f n (n, inc, st)) has' ∧ Mod [r] w w' := by
  have H := Lib.hid h
  have c0 := h.node n hn
  have c1 := h.inc n hn
  have c2 := h.state n hn
  have c3 := h.has
  have f0 := h.free (1 + n * 3)
  have f1 := h.free (1 + n * 3 + 1)
  have f2 := h.free (1 + n * 3 + 2)
  have f3 := h.free 193
  have hrl := h.lt
  clear h
  go_enter Tryz.func94, Tryz.ntmps94
  go_wp2_with fail
  go_region
  go_wp2
  obtain ⟨W, hW⟩ : ∃ W, ((((w.setCell ⟨r, 1 + n * 3, none⟩ (.int .i64 n)).setCell ⟨r, 1 + n * 3 + 1, none⟩ (.int .u64 inc)).setCell ⟨r, 1 + n * 3 + 2, none⟩ (.int .i64 st)).alloc (.cells #[.int .i64 n, .int .u64 inc, .int .i64 st] 55)).drew = W := ⟨_, rfl⟩
  have hRW : RollAt W r me (rollPut f n (n, inc, st)) has := by
    rw [← hW]
    exact (H.out.set3 hn).mod (((Mod.refl [] _).alloc _).drew) (by simp)
  have hMW : Mod [r] w W := by
    rw [← hW]
    exact (((((Mod.refl [r] w).setCell (.inl (by simp)) _).setCell (.inl (by simp)) _).setCell (.inl (by simp)) _).alloc _).drew
  have e2 : W.cell? ⟨w.heap.size, 0, none⟩ = some (.int .i64 n) := by
    rw [← hW]
    exact cell_in (heap_at _ _ _ (by simp [World.setCell])) rfl
  have e1 := hRW.has
  have e3 := hRW.free 193
  have HW := Lib.hid (And.intro hRW hMW)
  rw [hW]
  clear hW c0 c1 c2 c3 f0 f1 f2 f3 hRW hMW
  go_region_with (go_at_call 33; refine (with_is has has' n hn hor _).mono ?_; rintro e w5 ⟨rfl, rfl⟩)
  all_goals
    refine bodyPost_end (results_none rfl _ _ _) rfl ?_
    exact ⟨rfl, HW.out.1.setHas.mod (Mod.refl [] _).drew (by simp), (HW.out.2.setCell (.inl (by simp)) _).drew⟩

def isInt (o : Option Value) (k : IntKind) (n : Int) : Bool := match o with
  | some (.int k' n') => decide (k' = k) && decide (n' = n)
  | _ => false
theorem isInt_eq {o : Option Value} {k : IntKind} {n : Int} (h : isInt o k n = true) : o = some (.int k n) := by
  unfold isInt at h
  split at h
  · simp only [Bool.and_eq_true, decide_eq_true_eq] at h
    rw [h.1, h.2]
  · cases h

set_option maxRecDepth 100000 in
set_option maxHeartbeats 1000000 in
theorem roll_new (me : Nat) (hme : me < 64) (w : World) : Calls Tryz.prog 45 #[.int .i64 me] w fun e w' => e = .returned (.pointer (some ⟨w.heap.size, 0, none⟩)) ∧ RollAt w' w.heap.size me (rollPut (fun _ => (0, 0, 0)) me (me, 0, 0)) (2 ^ me) ∧ Mod [] w w' := by
  have hz : RollAt (w.alloc (.cells (Tryz.zeroCells147.setIfInBounds 0 (.int .i64 me)) 147)) w.heap.size me (fun _ => (0, 0, 0)) 0 := by
    have hz0 : ∀ j, j < 64 → (Tryz.zeroCells147[1 + j * 3]? = some (.int .i64 0) ∧ Tryz.zeroCells147[1 + j * 3 + 1]? = some (.int .u64 0) ∧ Tryz.zeroCells147[1 + j * 3 + 2]? = some (.int .i64 0)) := by
      intro j hj
      have h1 : ∀ k : Fin 64, isInt Tryz.zeroCells147[1 + k.val * 3]? .i64 0 = true ∧ isInt Tryz.zeroCells147[1 + k.val * 3 + 1]? .u64 0 = true ∧ isInt Tryz.zeroCells147[1 + k.val * 3 + 2]? .i64 0 = true := by decide +kernel
      exact ⟨isInt_eq (h1 ⟨j, hj⟩).1, isInt_eq (h1 ⟨j, hj⟩).2.1, isInt_eq (h1 ⟨j, hj⟩).2.2⟩
    refine ⟨by simp, cell_in (heap_new _ _) ?_, fun n hn => cell_in (heap_new _ _) ?_, fun n hn => cell_in (heap_new _ _) ?_, fun n hn => cell_in (heap_new _ _) ?_, cell_in (heap_new _ _) ?_, fun j => free_in (heap_new _ _)⟩
    · rw [Array.getElem?_setIfInBounds_self_of_lt (by decide +kernel)]
    · rw [Array.getElem?_setIfInBounds_ne (by omega)]; exact (hz0 n hn).1
    · rw [Array.getElem?_setIfInBounds_ne (by omega)]; exact (hz0 n hn).2.1
    · rw [Array.getElem?_setIfInBounds_ne (by omega)]; exact (hz0 n hn).2.2
    · rw [Array.getElem?_setIfInBounds_ne (by omega)]; exact isInt_eq (by decide +kernel)
  have HZ := Lib.hid hz
  have hor : bits .or .u64 0 (2 ^ me) = 2 ^ me := by
    have h1 : ∀ k : Fin 64, bits .or .u64 0 (2 ^ k.val) = 2 ^ k.val := by decide +kernel
    exact h1 ⟨me, hme⟩
  clear hz
  go_enter Tryz.func45, Tryz.ntmps45
  go_wp2_with fail
  refine (put_any w.heap.size me me 0 0 0 (2 ^ me) _ _ HZ.out hme hor).mono ?_
  rintro e w1 ⟨rfl, hR, hM⟩
  go_wp2_with fail
  go_ret
  exact ⟨rfl, hR, ((Mod.refl [] w).alloc _).step hM (by simp)⟩

end Go.Proofs.YtaaaiggbnkeblaaGreatDoor

namespace Go.Proofs.YtaaaiggbnkeblaaGreatDoor
set_option linter.unusedSimpArgs false
set_option linter.unusedVariables false
open Go.RowKit

def updV (u : Int × Int × Int) : Value := .agg #[.int .i64 u.1, .int .u64 u.2.1, .int .i64 u.2.2]

theorem Tryz.size_upd : (Tryz.prog.info? 55).map (·.size) = some 3 := by kernel_rfl

theorem results_row_tmp {P : Program} {fn : Func} {p u : Tmp} {ty : TypeId} (h : fn.results = #[.cell p ty, .tmp u]) (tmps : Array Value) (w : World) (g : Nat) (t : TypeId) (cs : Array Value) (fr : Nat × Nat) (d : TypeDesc)
    (hp : tmps.getD p undef = .pointer (some ⟨g, 0, none⟩)) (hg : w.heap[g]? = some (.cells cs t fr))
    (hu : P.underlying ty = some d) (hd : (match d with | .struct _ | .array _ _ => true | _ => false) = true) (hi : (P.info? ty).map (·.size) = some cs.size) :
    (results fn tmps).run P w = .ok (.tuple #[.agg cs, tmps.getD u undef]) w := by
  rw [results_cell_tmp h, hp]
  simp [asAddr, Result.andThen, run_loadVar_row w g t ty cs fr d hg hu hd hi]

set_option maxHeartbeats 1000000 in
theorem mine_any (r me : Nat) (hme : me < 64) (f : Nat → Int × Int × Int) (has : Int) (w : World) (h : RollAt w r me f has) :
    Calls Tryz.prog 47 #[.pointer (some ⟨r, 0, none⟩)] w fun e w' => e = .returned (updV (f me)) ∧ Mod [] w w' := by
  have c := h.me
  have c0 := h.node me hme
  have c1 := h.inc me hme
  have c2 := h.state me hme
  have hrl := h.lt
  have hmb : (0 : Int) ≤ me ∧ (me : Int) < 64 := by omega
  go_enter Tryz.func47, Tryz.ntmps47
  go_wp2_with fail
  go_region
  go_wp2
  refine bodyPost_ret (results_cell_row rfl _ _ w.heap.size 55 _ (0, 0) _ rfl (heap_new _ _) Tryz.underlying55 rfl Tryz.size_upd) rfl ?_
  exact ⟨rfl, ((Mod.refl [] w).alloc _).drew⟩

set_option maxHeartbeats 1000000 in
theorem get_has (r n : Nat) (hn : n < 64) (me has : Int) (f : Nat → Int × Int × Int) (w : World) (h : RollAt w r me f has) (hb : (bits .and .u64 has (2 ^ n) != 0) = true) :
    Calls Tryz.prog 49 #[.pointer (some ⟨r, 0, none⟩), .int .i64 n] w fun e w' => e = .returned (.tuple #[updV (f n), .bool true]) ∧ Mod [] w w' := by
  have c := h.has
  have c0 := h.node n hn
  have c1 := h.inc n hn
  have c2 := h.state n hn
  have hrl := h.lt
  have hmb : (0 : Int) ≤ n ∧ (n : Int) < 64 := by omega
  have HB := Lib.hid hb
  clear hb
  go_enter Tryz.func49, Tryz.ntmps49
  go_wp2_with fail
  refine (has_is has n true hn HB.out _).mono ?_
  rintro e w1 ⟨rfl, rfl⟩
  go_wp2_with fail
  refine bodyPost_ret (results_row_tmp rfl _ _ w.heap.size 55 _ (0, 0) _ rfl (heap_new _ _) Tryz.underlying55 rfl Tryz.size_upd) rfl ?_
  exact ⟨rfl, (Mod.refl [] w).alloc _⟩

set_option maxHeartbeats 1000000 in
theorem get_not (r n : Nat) (hn : n < 64) (me has : Int) (f : Nat → Int × Int × Int) (w : World) (h : RollAt w r me f has) (hb : (bits .and .u64 has (2 ^ n) != 0) = false) :
    Calls Tryz.prog 49 #[.pointer (some ⟨r, 0, none⟩), .int .i64 n] w fun e w' => e = .returned (.tuple #[updV (0, 0, 0), .bool false]) ∧ Mod [] w w' := by
  have c := h.has
  have hrl := h.lt
  have HB := Lib.hid hb
  clear hb
  go_enter Tryz.func49, Tryz.ntmps49
  go_wp2_with fail
  refine (has_is has n false hn HB.out _).mono ?_
  rintro e w1 ⟨rfl, rfl⟩
  go_wp2_with fail
  refine bodyPost_ret (results_row_tmp rfl _ _ w.heap.size 55 _ (0, 0) _ rfl (heap_new _ _) Tryz.underlying55 rfl Tryz.size_upd) rfl ?_
  exact ⟨rfl, (Mod.refl [] w).alloc _⟩

set_option maxHeartbeats 1000000 in
theorem tmay_is (n inc st : Int) (hn : 0 ≤ n ∧ n < 64) (hs : 0 ≤ st ∧ st ≤ 3) (w : World) :
    Calls Tryz.prog 133 #[.agg #[.int .i64 n, .int .u64 inc, .int .i64 st]] w fun e w' => e = .returned (.bool true) ∧ Mod [] w w' := by
  have q1 : decide ((0 : Int) ≤ n) = true := by simpa using hn.1
  have q2 : decide (n < (64 : Int)) = true := by simpa using hn.2
  have q3 : decide ((0 : Int) ≤ st) = true := by simpa using hs.1
  have q4 : decide (st ≤ (3 : Int)) = true := by simpa using hs.2
  go_enter Tryz.func133, Tryz.ntmps133
  go_wp2_with fail
  go_ret
  exact ⟨by simp [*], (Mod.refl [] w).alloc _⟩

theorem rmay_is (n inc st : Int) (hn : 0 ≤ n ∧ n < 64) (hs : 0 ≤ st ∧ st ≤ 3) (w : World) :
    Calls Tryz.prog 87 #[.agg #[.int .i64 n, .int .u64 inc, .int .i64 st]] w fun e w' => e = .returned (.bool true) ∧ Mod [] w w' := by
  go_enter Tryz.func87, Tryz.ntmps87
  go_wp2_with fail
  refine (tmay_is n inc st hn hs _).mono ?_
  rintro e w1 ⟨rfl, hM⟩
  go_wp2_with fail
  go_ret
  exact ⟨rfl, ((Mod.refl [] w).alloc _).trans hM⟩

theorem rlive_is (n inc st : Int) (b : Bool) (hb : (decide (0 ≤ st) && decide (st ≤ 1)) = b) (w : World) :
    Calls Tryz.prog 65 #[.agg #[.int .i64 n, .int .u64 inc, .int .i64 st]] w fun e w' => e = .returned (.bool b) ∧ Mod [] w w' := by
  have HB := Lib.hid hb
  clear hb
  go_enter Tryz.func65, Tryz.ntmps65
  go_wp2_with fail
  all_goals
    go_ret
    exact ⟨by rw [← HB.out]; first | (simp [*]; done) | (simp [*]; omega), (Mod.refl [] w).alloc _⟩

def cmp3 (a b : Int) : Int := if a < b then -1 else if b < a then 1 else 0

theorem nani_is (a : Int) (w : World) : Calls Tryz.prog 199 #[.int .i64 a] w fun e w' => e = .returned (.bool false) ∧ w = w' := by
  have ha : (a != a) = false := by simp
  go_enter Tryz.func199, Tryz.ntmps199
  go_wp2
  go_ret
  exact ⟨rfl, rfl⟩

theorem cmpi_is (a b c : Int) (hc : cmp3 a b = c) (w : World) : Calls Tryz.prog 141 #[.int .i64 a, .int .i64 b] w fun e w' => e = .returned (.int .i64 c) ∧ w = w' := by
  have HC := Lib.hid hc
  clear hc
  go_enter Tryz.func141, Tryz.ntmps141
  go_wp2_with fail
  refine (nani_is a _).mono ?_
  rintro e w1 ⟨rfl, rfl⟩
  go_wp2_with fail
  refine (nani_is b _).mono ?_
  rintro e w1 ⟨rfl, rfl⟩
  go_wp2_with fail
  all_goals
    go_ret
    exact ⟨ret_int (by rw [← HC.out]; unfold cmp3; split <;> (try split) <;> omega), rfl⟩

theorem nanu_is (a : Int) (w : World) : Calls Tryz.prog 241 #[.int .u64 a] w fun e w' => e = .returned (.bool false) ∧ w = w' := by
  have ha : (a != a) = false := by simp
  go_enter Tryz.func241, Tryz.ntmps241
  go_wp2
  go_ret
  exact ⟨rfl, rfl⟩

theorem cmpu_is (a b c : Int) (hc : cmp3 a b = c) (w : World) : Calls Tryz.prog 196 #[.int .u64 a, .int .u64 b] w fun e w' => e = .returned (.int .i64 c) ∧ w = w' := by
  have HC := Lib.hid hc
  clear hc
  go_enter Tryz.func196, Tryz.ntmps196
  go_wp2_with fail
  refine (nanu_is a _).mono ?_
  rintro e w1 ⟨rfl, rfl⟩
  go_wp2_with fail
  refine (nanu_is b _).mono ?_
  rintro e w1 ⟨rfl, rfl⟩
  go_wp2_with fail
  all_goals
    go_ret
    exact ⟨ret_int (by rw [← HC.out]; unfold cmp3; split <;> (try split) <;> omega), rfl⟩

def or2 (a b : Int) : Int := if a = 0 then b else a

set_option maxHeartbeats 1000000 in
theorem or2_is (g : Nat) (a b c : Int) (hc : or2 a b = c) (w : World) (h : w.heap[g]? = some (.cells #[.int .i64 a, .int .i64 b] 3 (0, 0))) :
    Calls Tryz.prog 140 #[.slice (some ⟨g, 0, none⟩) 2 2] w fun e w' => e = .returned (.int .i64 c) ∧ w = w' := by
  have c0 := cell_in h (j := 0) rfl
  have c1 := cell_in h (j := 1) rfl
  clear h
  by_cases ha : a = 0
  · have hq : (a != 0) = false := by simpa using ha
    have hc2 : b = c := by rw [← hc, or2, if_pos ha]
    subst hc2
    clear ha hc
    by_cases hb : b = 0
    · subst hb
      go_enter Tryz.func140, Tryz.ntmps140
      go_wp2_with fail
      refine wp_loop_rounds 3 ?_
      rw [rounds_succ]
      go_wp2
      rw [rounds_succ]
      go_wp2
      rw [rounds_succ]
      go_wp2
      go_ret
      exact ⟨rfl, rfl⟩
    · have hq2 : (b != 0) = true := by simpa using hb
      clear hb
      go_enter Tryz.func140, Tryz.ntmps140
      go_wp2_with fail
      refine wp_loop_rounds 2 ?_
      rw [rounds_succ]
      go_wp2
      rw [rounds_succ]
      go_wp2
      go_ret
      exact ⟨rfl, rfl⟩
  · have hq : (a != 0) = true := by simpa using ha
    have hc2 : a = c := by rw [← hc, or2, if_neg ha]
    subst hc2
    clear ha hc
    go_enter Tryz.func140, Tryz.ntmps140
    go_wp2_with fail
    refine wp_loop_rounds 1 ?_
    rw [rounds_succ]
    go_wp2
    go_ret
    exact ⟨rfl, rfl⟩

def against (u v : Int × Int × Int) : Int := or2 (cmp3 u.2.1 v.2.1) (cmp3 u.2.2 v.2.2)

set_option maxRecDepth 100000 in
set_option maxHeartbeats 4000000 in
theorem against_is (n inc st n' inc' st' c : Int) (hc : or2 (cmp3 inc inc') (cmp3 st st') = c) (w : World) :
    Calls Tryz.prog 137 #[.agg #[.int .i64 n, .int .u64 inc, .int .i64 st], .agg #[.int .i64 n', .int .u64 inc', .int .i64 st']] w fun e w' => e = .returned (.int .i64 c) ∧ Mod [] w w' := by
  obtain ⟨x, hx⟩ : ∃ x, cmp3 inc inc' = x := ⟨_, rfl⟩
  obtain ⟨y, hy⟩ : ∃ y, cmp3 st st' = y := ⟨_, rfl⟩
  rw [hx, hy] at hc
  have HX := Lib.hid hx
  have HY := Lib.hid hy
  have HC := Lib.hid hc
  clear hx hy hc
  go_enter Tryz.func137, Tryz.ntmps137
  go_wp2_with fail
  obtain ⟨W, hW⟩ : ∃ W, (w.alloc (.cells #[.int .i64 n, .int .u64 inc, .int .i64 st] 244)).alloc (.cells #[.int .i64 n', .int .u64 inc', .int .i64 st'] 244) = W := ⟨_, rfl⟩
  have c1 : W.cell? ⟨w.heap.size, 1, none⟩ = some (.int .u64 inc) := by rw [← hW]; exact cell_in (heap_two _ _ _) rfl
  have c2 : W.cell? ⟨w.heap.size, 2, none⟩ = some (.int .i64 st) := by rw [← hW]; exact cell_in (heap_two _ _ _) rfl
  have c3 : W.cell? ⟨w.heap.size + 1, 1, none⟩ = some (.int .u64 inc') := by rw [← hW]; exact cell_in (heap_top _ _ _) rfl
  have c4 : W.cell? ⟨w.heap.size + 1, 2, none⟩ = some (.int .i64 st') := by rw [← hW]; exact cell_in (heap_top _ _ _) rfl
  have hsz : W.heap.size = w.heap.size + 2 := by rw [← hW]; simp
  have HM := Lib.hid (show Mod [] w W by rw [← hW]; exact ((Mod.refl [] w).alloc _).alloc _)
  rw [hW]
  clear hW
  have HNW := Lib.hid (show ((W.alloc (.cells #[.int .i64 x, .int .i64 y] 3)).drew).heap[w.heap.size + 2]? = some (.cells #[.int .i64 x, .int .i64 y] 3 (0, 0)) by rw [← hsz]; exact heap_new W _)
  go_region_held3 (fun w' => w'.cell? ⟨w.heap.size, 1, none⟩ = some (.int .u64 inc) ∧ w'.cell? ⟨w.heap.size, 2, none⟩ = some (.int .i64 st) ∧ w'.cell? ⟨w.heap.size + 1, 1, none⟩ = some (.int .u64 inc') ∧ w'.cell? ⟨w.heap.size + 1, 2, none⟩ = some (.int .i64 st')) (first | go_keep) (first | (go_at_call 196; refine (cmpu_is inc inc' x HX.out _).mono ?_; rintro e w5 ⟨rfl, rfl⟩) | (go_at_call 141; refine (cmpi_is st st' y HY.out _).mono ?_; rintro e w5 ⟨rfl, rfl⟩) | (go_at_call 140; refine (or2_is (w.heap.size + 2) x y c HC.out _ HNW.out).mono ?_; rintro e w5 ⟨rfl, rfl⟩))
  go_wp2
  go_ret
  exact ⟨rfl, (HM.out.alloc _).drew⟩

theorem rnewer_is (n inc st n' inc' st' : Int) (b : Bool) (hb : decide (0 < or2 (cmp3 inc inc') (cmp3 st st')) = b) (w : World) :
    Calls Tryz.prog 95 #[.agg #[.int .i64 n, .int .u64 inc, .int .i64 st], .agg #[.int .i64 n', .int .u64 inc', .int .i64 st']] w fun e w' => e = .returned (.bool b) ∧ Mod [] w w' := by
  obtain ⟨c, hc⟩ : ∃ c, or2 (cmp3 inc inc') (cmp3 st st') = c := ⟨_, rfl⟩
  rw [hc] at hb
  have HB := Lib.hid hb
  have HC := Lib.hid hc
  clear hb hc
  go_enter Tryz.func95, Tryz.ntmps95
  go_wp2_with fail
  refine (against_is n inc st n' inc' st' c HC.out _).mono ?_
  rintro e w1 ⟨rfl, hM⟩
  go_wp2_with fail
  go_ret
  exact ⟨by rw [← HB.out]; rfl, (((Mod.refl [] w).alloc _).alloc _).trans hM⟩

set_option maxHeartbeats 4000000 in
theorem refute_old (me inc : Int) (inc' st' : Int) (hme : 0 ≤ me ∧ me < 64) (hst : 0 ≤ st' ∧ st' ≤ 3) (hold : decide (0 < or2 (cmp3 inc' inc) (cmp3 st' 0)) = false) (w : World) :
    Calls Tryz.prog 142 #[.int .i64 me, .int .u64 inc, .agg #[.int .i64 me, .int .u64 inc', .int .i64 st']] w fun e w' => e = .returned (.tuple #[.int .u64 inc, .bool false, .int .i64 0]) ∧ Mod [] w w' := by
  have HO := Lib.hid hold
  have hmm : (me != me) = false := by simp
  clear hold
  go_enter Tryz.func142, Tryz.ntmps142
  go_wp2_with fail
  refine (rmay_is me inc' st' hme hst _).mono ?_
  rintro e w1 ⟨rfl, hM⟩
  have c0 : w1.cell? ⟨w.heap.size, 0, none⟩ = some (.int .i64 me) := (hM.cell (by simp) (by simp)).trans (cell_in (heap_new _ _) rfl)
  have c1 : w1.cell? ⟨w.heap.size, 1, none⟩ = some (.int .u64 inc') := (hM.cell (by simp) (by simp)).trans (cell_in (heap_new _ _) rfl)
  have c2 : w1.cell? ⟨w.heap.size, 2, none⟩ = some (.int .i64 st') := (hM.cell (by simp) (by simp)).trans (cell_in (heap_new _ _) rfl)
  have HM := Lib.hid (((Mod.refl [] w).alloc _).trans hM)
  clear hM
  go_wp2_with fail
  refine (rnewer_is me inc' st' me inc 0 false HO.out _).mono ?_
  rintro e w2 ⟨rfl, hM⟩
  go_wp2_with fail
  refine bodyPost_ret (results_tmp3 rfl _ _ _) rfl ?_
  exact ⟨rfl, HM.out.trans hM⟩

end Go.Proofs.YtaaaiggbnkeblaaGreatDoor

namespace Go.Proofs.YtaaaiggbnkeblaaGreatDoor
set_option linter.unusedSimpArgs false
set_option linter.unusedVariables false
open Go.RowKit

theorem cell_lt' {w : World} {p : Addr} {v : Value} (h : w.cell? p = some v) : p.block < w.heap.size := block_lt_of_cell h
theorem Mod.at {S : List Nat} {a b : World} (h : Mod S a b) {p : Addr} {v : Value} (hc : a.cell? p = some v) (hs : p.block ∉ S) : b.cell? p = some v := (h.cell (block_lt_of_cell hc) hs).trans hc
theorem keep4 {a b : World} {p q r s : Addr} {x y z t : Value} (h : Mod [] a b) (k : a.cell? p = some x ∧ a.cell? q = some y ∧ a.cell? r = some z ∧ a.cell? s = some t) : b.cell? p = some x ∧ b.cell? q = some y ∧ b.cell? r = some z ∧ b.cell? s = some t :=
  ⟨h.at k.1 (by simp), h.at k.2.1 (by simp), h.at k.2.2.1 (by simp), h.at k.2.2.2 (by simp)⟩

set_option maxRecDepth 100000 in
set_option maxHeartbeats 4000000 in
theorem hear_own_old (r me : Nat) (hme : me < 64) (f : Nat → Int × Int × Int) (has inc' st' : Int) (hst : 0 ≤ st' ∧ st' ≤ 3) (w : World) (h : RollAt w r me f has) (hold : decide (0 < or2 (cmp3 inc' (f me).2.1) (cmp3 st' 0)) = false) :
    Calls Tryz.prog 97 #[.pointer (some ⟨r, 0, none⟩), .agg #[.int .i64 me, .int .u64 inc', .int .i64 st']] w fun e w' => e = .returned (.tuple #[.bool false, .int .i64 70]) ∧ Mod [] w w' := by
  have H := Lib.hid h
  have HO := Lib.hid hold
  have hrl := h.lt
  have hmm : ((me : Int) == (me : Int)) = true := by simp
  clear h hold
  go_enter Tryz.func97, Tryz.ntmps97
  go_wp2_with fail
  refine (rmay_is me inc' st' (by omega) hst _).mono ?_
  rintro e w1 ⟨rfl, hM⟩
  have hM1 := ((Mod.refl [] w).alloc _).trans hM
  have c0 : w1.cell? ⟨w.heap.size, 0, none⟩ = some (.int .i64 me) := (hM.cell (by simp) (by simp)).trans (cell_in (heap_new _ _) rfl)
  have c1 : w1.cell? ⟨w.heap.size, 1, none⟩ = some (.int .u64 inc') := (hM.cell (by simp) (by simp)).trans (cell_in (heap_new _ _) rfl)
  have c2 : w1.cell? ⟨w.heap.size, 2, none⟩ = some (.int .i64 st') := (hM.cell (by simp) (by simp)).trans (cell_in (heap_new _ _) rfl)
  have cm := (H.out.mod hM1 (by simp)).me
  have HR1 := Lib.hid (H.out.mod hM1 (by simp))
  have HM := Lib.hid hM1
  clear hM hM1
  go_wp2_with fail
  go_region
  go_wp2_with fail
  have HRD := Lib.hid (HR1.out.mod (Mod.refl [] _).drew (by simp))
  have HMD := Lib.hid HM.out.drew
  have d0 : w1.drew.cell? ⟨w.heap.size, 0, none⟩ = some (.int .i64 me) := c0
  have d1 : w1.drew.cell? ⟨w.heap.size, 1, none⟩ = some (.int .u64 inc') := c1
  have d2 : w1.drew.cell? ⟨w.heap.size, 2, none⟩ = some (.int .i64 st') := c2
  have dm : w1.drew.cell? ⟨r, 0, none⟩ = some (.int .i64 me) := cm
  clear c0 c1 c2 cm
  generalize w1.drew = wD at HRD HMD d0 d1 d2 dm ⊢
  have HC := Lib.hid (And.intro dm (And.intro d0 (And.intro d1 d2)))
  obtain ⟨inc, hinc⟩ : ∃ inc, (f me).2.1 = inc := ⟨_, rfl⟩
  have HF := Lib.hid hinc
  have HRF := Lib.hid (fun w' => refute_old (me : Int) inc inc' st' (by omega) hst (by rw [← hinc]; exact HO.out) w')
  clear hinc
  have hfld : ∀ (x y z : Value) (w : World), (Instr.field 55 (.agg #[x, y, z]) 1).run Tryz.prog w = .ok y w := fun x y z w => by kernel_rfl
  go_region_held3 (fun w' => w'.cell? ⟨r, 0, none⟩ = some (.int .i64 me) ∧ w'.cell? ⟨w.heap.size, 0, none⟩ = some (.int .i64 me) ∧ w'.cell? ⟨w.heap.size, 1, none⟩ = some (.int .u64 inc') ∧ w'.cell? ⟨w.heap.size, 2, none⟩ = some (.int .i64 st')) (first | go_keep | exact HK5.out | exact HK6.out) (first | (go_at_call 47; refine (mine_any r me hme f has _ (HRD.out.mod (Mod.refl [] _).drew (by simp))).mono ?_; rintro e w5 ⟨rfl, hM5⟩; have HM5 := Lib.hid (HMD.out.drew.trans hM5); have HK5 := Lib.hid (keep4 hM5 HC.out); clear hM5; unfold updV; rw [HF.out]) | (go_at_call 142; refine (HRF.out _).mono ?_; rintro e w6 ⟨rfl, hM6⟩; have HM6 := Lib.hid (HM5.out.trans hM6); have HK6 := Lib.hid (keep4 hM6 HK5.out); clear hM6))
  go_wp2
  go_ret2
  exact ⟨rfl, HM6.out⟩

theorem row_head {A B : Array Value} {j : Nat} {v : Value} (h : A[j]? = some v) : (A ++ B)[j]? = some v := by
  have hj := (Array.getElem?_eq_some_iff.1 h).1
  rw [Array.getElem?_append_left hj]
  exact h

/-- The roll of node 0 that knows itself alone. -/
def Roll0 (w : World) (r : Nat) : Prop := RollAt w r 0 (rollPut (fun _ => (0, 0, 0)) 0 (0, 0, 0)) 1
theorem Roll0.mod {S : List Nat} {w w' : World} {r : Nat} (h : Roll0 w r) (hm : Mod S w w') (hs : r ∉ S) : Roll0 w' r := RollAt.mod h hm hs

/-- A list of one update that a call made. -/
def OneUpd (w : World) (e : Ending) (w' : World) : Prop := ∃ g c, e = .returned (.slice (some ⟨g, 0, none⟩) 1 c) ∧ g < w'.heap.size ∧ w'.cell? ⟨g, 0, none⟩ = some (.int .i64 0) ∧ w'.cell? ⟨g, 1, none⟩ = some (.int .u64 0) ∧ w'.cell? ⟨g, 2, none⟩ = some (.int .i64 0) ∧ Mod [] w w'

set_option maxHeartbeats 4000000 in
theorem all_one (r : Nat) (w : World) (h : Roll0 w r) (ht : Tab w) : Calls Tryz.prog 17 #[.pointer (some ⟨r, 0, none⟩)] w (OneUpd w) := by
  have H := Lib.hid h
  have cm := h.has
  have hrl := h.lt
  have HT := Lib.hid ht
  clear h ht
  go_enter Tryz.func17, Tryz.ntmps17
  go_wp2_with fail
  refine (blist_is 1 [0] bits_one (by decide) _ HT.out).mono ?_
  rintro e w1 ⟨v, rfl, hO, hM⟩
  obtain ⟨a, c, rfl, hr, hnc, _⟩ := hO.shape
  obtain ⟨ad, rfl, hlt, hc⟩ := hr (by simp)
  have c0 := hc 0 0 rfl
  simp only [Addr.add, if_true] at c0
  have hR := H.out.mod hM (by simp)
  have d0 := hR.node 0 (by omega)
  have d1 := hR.inc 0 (by omega)
  have d2 := hR.state 0 (by omega)
  simp only [rollPut, if_true, Nat.zero_mul, Nat.add_zero] at d0 d1 d2
  have HM := Lib.hid hM
  clear hO hr hnc hc hM hR
  go_wp2_with fail
  refine wp_loop_rounds 2 ?_
  rw [rounds_succ]
  go_wp2
  rw [rounds_succ]
  go_wp2
  go_ret
  refine ⟨w1.heap.size + 1, _, rfl, by simp, ?_, ?_, ?_, ((HM.out.alloc _).alloc _).drew⟩
  · exact cell_in (heap_top w1 _ _) (row_head rfl)
  · exact cell_in (heap_top w1 _ _) (row_head rfl)
  · exact cell_in (heap_top w1 _ _) (row_head rfl)

theorem or_zero : bits .or .u64 0 (2 ^ 0) = 1 := by decide
theorem has_zero : (bits .and .u64 1 (2 ^ 0) != 0) = true := by decide
theorem less_zero : bits .andNot .u64 1 (2 ^ 0) = 0 := by decide

set_option maxHeartbeats 4000000 in
theorem live_one (r : Nat) (w : World) (h : Roll0 w r) (ht : Tab w) : Calls Tryz.prog 19 #[.pointer (some ⟨r, 0, none⟩)] w fun e w' => e = .returned (.int .u64 1) ∧ Mod [] w w' := by
  have H := Lib.hid h
  have HT := Lib.hid ht
  clear h ht
  go_enter Tryz.func19, Tryz.ntmps19
  go_wp2_with fail
  refine (all_one r _ H.out HT.out).mono ?_
  rintro e w1 ⟨g, c, rfl, hg, c0, c1, c2, hM⟩
  have HM := Lib.hid hM
  clear hM
  go_wp2_with fail
  refine wp_loop_rounds 2 ?_
  rw [rounds_succ]
  go_wp2_with fail
  refine (rlive_is 0 0 0 true rfl _).mono ?_
  rintro e w2 ⟨rfl, hM2⟩
  have d0 : w2.cell? ⟨w1.heap.size, 0, none⟩ = some (.int .i64 0) := (hM2.cell (by simp) (by simp)).trans (cell_in (heap_new w1 _) rfl)
  have HM2 := Lib.hid ((HM.out.alloc _).trans hM2)
  clear hM2
  go_wp2_with fail
  refine (with_is 0 1 0 (by decide) or_zero _).mono ?_
  rintro e w3 ⟨rfl, rfl⟩
  go_wp2_with fail
  rw [rounds_succ]
  go_wp2
  go_ret
  exact ⟨rfl, HM2.out⟩

def NilPost (w : World) (e : Ending) (w' : World) : Prop := e = .returned (.slice none 0 0) ∧ Mod [] w w'

theorem bnil_is (w : World) (ht : Tab w) : Calls Tryz.prog 63 #[.int .u64 0] w fun e w' => (∃ a c, e = .returned (.slice a 0 c)) ∧ Mod [] w w' := by
  refine (blist_is 0 [] .nil (by decide) w ht).mono ?_
  rintro e w1 ⟨v, rfl, hO, hM⟩
  obtain ⟨a, c, rfl, _⟩ := hO.shape
  exact ⟨⟨a, c, rfl⟩, hM⟩

set_option maxRecDepth 100000 in
set_option maxHeartbeats 4000000 in
theorem others_one (r : Nat) (w : World) (h : Roll0 w r) (ht : Tab w) : Calls Tryz.prog 51 #[.pointer (some ⟨r, 0, none⟩)] w fun e w' => (∃ a c, e = .returned (.slice a 0 c)) ∧ Mod [] w w' := by
  have H := Lib.hid h
  have cm := h.me
  have hrl := h.lt
  have HT := Lib.hid ht
  clear h ht
  go_enter Tryz.func51, Tryz.ntmps51
  go_wp2_with fail
  go_region_held3 (fun w' => w'.cell? ⟨r, 0, none⟩ = some (.int .i64 0)) (first | go_keep | exact K5.out | exact K6.out) (first | (go_at_call 19; refine (live_one r _ (H.out.mod (Mod.refl [] _).drew (by simp)) (HT.out.mod (Mod.refl [] _).drew (by simp))).mono ?_; rintro e w5 ⟨rfl, hM5⟩; have HM5 := Lib.hid ((Mod.refl [] _).drew.trans hM5); have HT5 := Lib.hid (HT.out.mod HM5.out (by simp)); have K5 := Lib.hid (HM5.out.at (H.out.me) (by simp)); clear hM5) | (go_at_call 105; refine (less_is 1 0 0 (by decide) less_zero _).mono ?_; rintro e w5' ⟨rfl, rfl⟩) | (go_at_call 63; refine (bnil_is _ HT5.out).mono ?_; rintro e w6 ⟨⟨a6, c6, rfl⟩, hM6⟩; have HM6 := Lib.hid (HM5.out.trans hM6); have K6 := Lib.hid (HM6.out.at (H.out.me) (by simp)); clear hM6))
  go_wp2
  go_ret
  exact ⟨⟨a6, c6, rfl⟩, HM6.out⟩

end Go.Proofs.YtaaaiggbnkeblaaGreatDoor

namespace Go.Proofs.YtaaaiggbnkeblaaGreatDoor
set_option linter.unusedSimpArgs false
set_option linter.unusedVariables false
open Go.RowKit
section
variable {P : Program} {w : World} {b : Nat} {t K E : TypeId}
theorem mrun_underlying {d : TypeDesc} (h : P.underlying t = some d) : (underlying t).run P w = .ok d w := by simp [underlying, h]
theorem mrun_getMap {es : Array MapEntry} {c : Nat} (h : w.heap[b]? = some (.map es c)) : (getObj b).run P w = .ok (.map es c) w := by simp [getObj, Sem.run, h]
theorem mrun_setMap {es : Array MapEntry} {c : Nat} (o : Obj) (h : w.heap[b]? = some (.map es c)) : (setObj b o).run P w = .ok () (w.putObj b o) := by simp [setObj, Sem.run, h, World.putObj]
theorem mrun_check (e : Bool) (k : Int) (hK : P.underlying K = some (.int .i64)) : (Instr.checkKey e 10000 K (.int .i64 k)).run P w = .ok () w := by
  show (Instr.checkKey e (9999 + 1) K (.int .i64 k)).run P w = .ok () w
  rw [Instr.checkKey]
  simp [mrun_underlying hK, Sem.run_bind, Result.andThen]
theorem mrun_find_none (k : Int) (hK : P.underlying K = some (.int .i64)) : (Instr.findKey K (.int .i64 k) []).run P w = .ok none w := by
  simp [Instr.findKey, mrun_underlying hK, Sem.run_bind, Result.andThen, Instr.findNow]
theorem mrun_find_one (k : Int) (v : Value) (n : Nat) (hK : P.underlying K = some (.int .i64)) : (Instr.findKey K (.int .i64 k) [{ key := .int .i64 k, val := v, born := n }]).run P w = .ok (some (0, v)) w := by
  simp [Instr.findKey, mrun_underlying hK, Sem.run_bind, Result.andThen, Instr.findNow, Instr.sameNow]
theorem mrun_update_new {c : Nat} {k : Int} {v : Value} (ht : P.underlying t = some (.map K E)) (hK : P.underlying K = some (.int .i64)) (h : w.heap[b]? = some (.map #[] c)) :
    (Instr.mapUpdate t (.map (some b)) (.int .i64 k) v).run P w = .ok () (w.putObj b (.map #[{ key := .int .i64 k, val := v, born := c }] (c + 1))) := by
  simp [Instr.mapUpdate, mrun_underlying ht, Sem.run_bind, Result.andThen, mrun_getMap h, mrun_check _ _ hK, mrun_find_none _ hK, mrun_setMap _ h]
theorem mrun_update_one {c n : Nat} {k : Int} {u v : Value} (ht : P.underlying t = some (.map K E)) (hK : P.underlying K = some (.int .i64)) (h : w.heap[b]? = some (.map #[{ key := .int .i64 k, val := u, born := n }] c)) :
    (Instr.mapUpdate t (.map (some b)) (.int .i64 k) v).run P w = .ok () (w.putObj b (.map #[{ key := .int .i64 k, val := v, born := n }] c)) := by
  simp [Instr.mapUpdate, mrun_underlying ht, Sem.run_bind, Result.andThen, mrun_getMap h, mrun_check _ _ hK, mrun_find_one _ _ _ hK, mrun_setMap _ h, Instr.keyThatStays, Instr.sameBits]
theorem mrun_look_one {c n : Nat} {k : Int} {u : Value} (ht : P.underlying t = some (.map K E)) (hK : P.underlying K = some (.int .i64)) (h : w.heap[b]? = some (.map #[{ key := .int .i64 k, val := u, born := n }] c)) :
    (Instr.lookup t (.map (some b)) (.int .i64 k) true).run P w = .ok (.tuple #[u, .bool true]) w := by
  simp [Instr.lookup, mrun_underlying ht, Sem.run_bind, Result.andThen, mrun_getMap h, mrun_check _ _ hK, mrun_find_one _ _ _ hK]
theorem mrun_look_nil {k : Int} {z : Value} (ht : P.underlying t = some (.map K E)) (hK : P.underlying K = some (.int .i64)) (hz : (zeroValue E).run P w = .ok z w) :
    (Instr.lookup t (.map none) (.int .i64 k) true).run P w = .ok (.tuple #[z, .bool false]) w := by
  simp [Instr.lookup, mrun_underlying ht, Sem.run_bind, Result.andThen, mrun_check _ _ hK, mrun_find_none _ hK, hz]
theorem mrun_delete_one {c n : Nat} {k : Int} {u : Value} {t2 t3 : TypeId} (ht : P.underlying t = some (.map K E)) (hK : P.underlying K = some (.int .i64)) (h : w.heap[b]? = some (.map #[{ key := .int .i64 k, val := u, born := n }] c)) :
    (Builtin.delete_ #[t, t2] t3 #[.map (some b), .int .i64 k]).run P w = .ok (.tuple #[]) (w.putObj b (.map #[] c)) := by
  simp [Builtin.delete_, mrun_underlying ht, Sem.run_bind, Result.andThen, mrun_getMap h, mrun_check _ _ hK, mrun_find_one _ _ _ hK, mrun_setMap _ h]
theorem mrun_look_plain {c n : Nat} {k : Int} {u : Value} (ht : P.underlying t = some (.map K E)) (hK : P.underlying K = some (.int .i64)) (h : w.heap[b]? = some (.map #[{ key := .int .i64 k, val := u, born := n }] c)) :
    (Instr.lookup t (.map (some b)) (.int .i64 k) false).run P w = .ok u w := by
  simp [Instr.lookup, mrun_underlying ht, Sem.run_bind, Result.andThen, mrun_getMap h, mrun_check _ _ hK, mrun_find_one _ _ _ hK]
theorem mrun_len {c : Nat} {es : Array MapEntry} {t3 : TypeId} (ht : P.underlying t = some (.map K E)) (h : w.heap[b]? = some (.map es c)) :
    (Builtin.len_ #[t] t3 #[.map (some b)]).run P w = .ok (.int .i64 es.size) w := by
  simp [Builtin.len_, mrun_underlying ht, Sem.run_bind, Result.andThen, mrun_getMap h]
  rfl
theorem mrun_range {c : Nat} {es : Array MapEntry} (ht : P.underlying t = some (.map K E)) (h : w.heap[b]? = some (.map es c)) :
    (Instr.range t (.map (some b))).run P w = .ok (.pointer (some ⟨w.heap.size, 0, none⟩)) (w.alloc (.mapIter (some b) c #[] c)) := by
  simp [Instr.range, mrun_underlying ht, Sem.run_bind, Result.andThen, mrun_getMap h, run_newObj_alloc]
theorem mrun_getIter {r c d : Nat} {m : Option Nat} {seen : Array Nat} (h : w.heap[r]? = some (.mapIter m c seen d)) : (getObj r).run P w = .ok (.mapIter m c seen d) w := by simp [getObj, Sem.run, h]
theorem mrun_setIter {r c d : Nat} {m : Option Nat} {seen : Array Nat} (o : Obj) (h : w.heap[r]? = some (.mapIter m c seen d)) : (setObj r o).run P w = .ok () (w.putObj r o) := by simp [setObj, Sem.run, h, World.putObj]
theorem mrun_next_one {r c n : Nat} {k : Value} {u : Value} {ty : TypeId} (hr : w.heap[r]? = some (.mapIter (some b) c #[] c)) (hn : n < c) (h : w.heap[b]? = some (.map #[{ key := k, val := u, born := n }] c)) :
    (Instr.next (.pointer (some ⟨r, 0, none⟩)) false ty).run P w = .ok (.tuple #[.bool true, k, u]) (w.putObj r (.mapIter (some b) c #[n] c)) := by
  have hc : ¬ c ≤ n := by omega
  have hq : (Question.mapNext 1).forced = true := rfl
  have hs := mrun_setIter (P := P) (.mapIter (some b) c #[n] c) hr
  simp [Instr.next, Sem.run_bind, Result.andThen, mrun_getIter hr, mrun_getMap h, hn, hc, hq, choose, Sem.run, hs]
theorem mrun_next_end {r c n : Nat} {k : Value} {u : Value} {ty : TypeId} (hr : w.heap[r]? = some (.mapIter (some b) c #[n] c)) (hn : n < c) (h : w.heap[b]? = some (.map #[{ key := k, val := u, born := n }] c)) :
    (Instr.next (.pointer (some ⟨r, 0, none⟩)) false ty).run P w = .ok (.tuple #[.bool false]) w := by
  have hc : ¬ c ≤ n := by omega
  simp [Instr.next, Sem.run_bind, Result.andThen, mrun_getIter hr, mrun_getMap h, hn, hc, show (Question.mapNext 1).forced = true from rfl, choose, Sem.run]
theorem mrun_entry_one {r c n : Nat} {k : Value} {u : Value} (hr : w.heap[r]? = some (.mapIter (some b) c #[n] c)) (h : w.heap[b]? = some (.map #[{ key := k, val := u, born := n }] c)) :
    (Instr.entry (.pointer (some ⟨r, 0, none⟩))).run P w = .ok (.tuple #[k, u]) w := by
  simp [Instr.entry, Sem.run_bind, Result.andThen, mrun_getIter hr, mrun_getMap h]
end

end Go.Proofs.YtaaaiggbnkeblaaGreatDoor

namespace Go.Proofs.YtaaaiggbnkeblaaGreatDoor
set_option linter.unusedSimpArgs false
set_option linter.unusedVariables false
open Go.RowKit

set_option maxRecDepth 100000 in
set_option maxHeartbeats 1000000 in
theorem len64_one (w : World) : Calls Tryz.prog 251 #[.int .u64 1] w fun e w' => e = .returned (.int .i64 1) ∧ w = w' := by
  go_enter Tryz.func251, Tryz.ntmps251
  go_wp2_with fail
  go_ret
  exact ⟨ret_int (by kernel_rfl), rfl⟩

set_option maxHeartbeats 1000000 in
theorem len_one (w : World) : Calls Tryz.prog 198 #[.int .u64 1] w fun e w' => e = .returned (.int .i64 1) ∧ w = w' := by
  go_enter Tryz.func198, Tryz.ntmps198
  go_wp2_with fail
  refine (len64_one _).mono ?_
  rintro e w1 ⟨rfl, rfl⟩
  go_wp2_with fail
  go_ret
  exact ⟨rfl, rfl⟩

set_option maxHeartbeats 1000000 in
theorem isort_one (a : Option Addr) (c : Nat) (cmp : Value) (w : World) : Calls Tryz.prog 242 #[.slice a 1 c, .int .i64 0, .int .i64 1, cmp] w fun e w' => e = .returned (.tuple #[]) ∧ w = w' := by
  go_enter Tryz.func242, Tryz.ntmps242
  go_wp2_with fail
  refine wp_loop_rounds 1 ?_
  rw [rounds_succ]
  go_wp2_with fail
  refine bodyPost_end (results_none rfl _ _ _) rfl ?_
  exact ⟨rfl, rfl⟩

set_option maxRecDepth 100000 in
set_option maxHeartbeats 2000000 in
theorem pdq_one (a : Option Addr) (c : Nat) (n : Int) (cmp : Value) (w : World) : Calls Tryz.prog 197 #[.slice a 1 c, .int .i64 0, .int .i64 1, .int .i64 n, cmp] w fun e w' => e = .returned (.tuple #[]) ∧ w = w' := by
  go_enter Tryz.func197, Tryz.ntmps197
  go_wp2_with fail
  refine wp_loop_rounds 1 ?_
  rw [rounds_succ]
  go_wp2_with fail
  refine (isort_one a c cmp _).mono ?_
  rintro e w1 ⟨rfl, rfl⟩
  go_wp2_with fail
  refine bodyPost_ret (results_none rfl _ _ _) rfl ?_
  exact ⟨rfl, rfl⟩

theorem sort_one (a : Option Addr) (c : Nat) (cmp : Value) (w : World) : Calls Tryz.prog 138 #[.slice a 1 c, cmp] w fun e w' => e = .returned (.tuple #[]) ∧ w = w' := by
  go_enter Tryz.func138, Tryz.ntmps138
  go_wp2_with fail
  refine (len_one _).mono ?_
  rintro e w1 ⟨rfl, rfl⟩
  go_wp2_with fail
  refine (pdq_one a c 1 cmp _).mono ?_
  rintro e w1 ⟨rfl, rfl⟩
  go_wp2_with fail
  refine bodyPost_end (results_none rfl _ _ _) rfl ?_
  exact ⟨rfl, rfl⟩

/-- What a rumor queue of one bears: the update u, told t times; its map's block b. -/
def itemV (u : Int × Int × Int) (t : Int) : Value := .agg #[.int .i64 u.1, .int .u64 u.2.1, .int .i64 u.2.2, .int .i64 t]
def OneMap (w : World) (b : Nat) (u : Int × Int × Int) (t : Int) : Prop := w.heap[b]? = some (.map #[{ key := .int .i64 u.1, val := itemV u t, born := 0 }] 1)

theorem Tryz.inf_item : (Tryz.prog.info? 192).map (fun i => (i.zero, i.size, i.bytes)) = some (some (itemV (0, 0, 0) 0), 4, 32) := by kernel_rfl

set_option maxRecDepth 100000 in
set_option maxHeartbeats 4000000 in
theorem items_one (q o b : Nat) (u : Int × Int × Int) (t : Int) (w : World) (hq : w.cell? ⟨q, o, none⟩ = some (.map (some b))) (hb : OneMap w b u t) :
    Calls Tryz.prog 96 #[.pointer (some ⟨q, o, none⟩)] w fun e w' => (∃ a, e = .returned (.slice (some ⟨a, 0, none⟩) 1 1) ∧ a < w'.heap.size ∧ w.heap.size ≤ a ∧ (∃ cs, w'.heap[a]? = some (.cells cs 192 (0, 0)) ∧ cs[0]? = some (.int .i64 u.1) ∧ cs[1]? = some (.int .u64 u.2.1) ∧ cs[2]? = some (.int .i64 u.2.2) ∧ cs[3]? = some (.int .i64 t))) ∧ Mod [] w w' := by
  have hln := mrun_len (P := Tryz.prog) (t := 70) (t3 := 3) (K := 3) (E := 192) Tryz.underlying70 hb
  have hmk : ∀ w : World, (Instr.makeSlice 195 (.int .i64 0) (.int .i64 1)).run Tryz.prog w = .ok (.slice (some ⟨w.heap.size, 0, none⟩) 0 1) (w.alloc (.cells #[.int .i64 0, .int .u64 0, .int .i64 0, .int .i64 0] 192)) := fun w => by kernel_rfl
  have hqb : q < w.heap.size := block_lt_of_cell hq
  have hbb : b < w.heap.size := (Array.getElem?_eq_some_iff.1 hb).1
  obtain ⟨W1, hW1⟩ : ∃ W1, w.alloc (.cells #[.int .i64 0, .int .u64 0, .int .i64 0, .int .i64 0] 192) = W1 := ⟨_, rfl⟩
  have hq1 : W1.cell? ⟨q, o, none⟩ = some (.map (some b)) := by rw [← hW1]; exact (World.cell?_of_block (w := w) (Below.heap_alloc _ _ _ hqb)).trans hq
  have hb1 : W1.heap[b]? = some (.map #[{ key := .int .i64 u.1, val := itemV u t, born := 0 }] 1) := by rw [← hW1]; exact (Below.heap_alloc _ _ _ hbb).trans hb
  have hs1 : W1.heap.size = w.heap.size + 1 := by rw [← hW1]; simp
  have hr1 : W1.heap[w.heap.size]? = some (.cells #[.int .i64 0, .int .u64 0, .int .i64 0, .int .i64 0] 192 (0, 0)) := by rw [← hW1]; exact heap_new _ _
  have hm1 : Mod [] w W1 := by rw [← hW1]; exact (Mod.refl [] w).alloc _
  have hrg := mrun_range (P := Tryz.prog) (t := 70) (K := 3) (E := 192) Tryz.underlying70 hb1
  obtain ⟨W2, hW2⟩ : ∃ W2, W1.alloc (.mapIter (some b) 1 #[] 1) = W2 := ⟨_, rfl⟩
  have hb2 : W2.heap[b]? = some (.map #[{ key := .int .i64 u.1, val := itemV u t, born := 0 }] 1) := by rw [← hW2]; exact (Below.heap_alloc _ _ _ (by omega)).trans hb1
  have hi2 : W2.heap[w.heap.size + 1]? = some (.mapIter (some b) 1 #[] 1) := by rw [← hW2]; exact heap_at _ _ _ hs1.symm
  have hr2 : W2.heap[w.heap.size]? = some (.cells #[.int .i64 0, .int .u64 0, .int .i64 0, .int .i64 0] 192 (0, 0)) := by rw [← hW2]; exact (Below.heap_alloc _ _ _ (by omega)).trans hr1
  have hs2 : W2.heap.size = w.heap.size + 2 := by rw [← hW2]; simp [hs1]
  have hm2 : Mod [] w W2 := by rw [← hW2]; exact hm1.alloc _
  rw [hs1, hW2] at hrg
  go_enter Tryz.func96, Tryz.ntmps96
  go_wp2_with fail
  have HW := Lib.hid (And.intro hm1 (And.intro hm2 hs2))
  clear hW1 hW2 hrg hln hmk hq1 hb1 hr1 hs1 hm1 hm2
  obtain ⟨W3, hW3⟩ : ∃ W3, W2.putObj (w.heap.size + 1) (.mapIter (some b) 1 #[0] 1) = W3 := ⟨_, rfl⟩
  have hnx := mrun_next_one (P := Tryz.prog) (ty := 0) hi2 (by omega) hb2
  have hbq : b ≠ w.heap.size + 1 := by omega
  have hb3 : W3.heap[b]? = some (.map #[{ key := .int .i64 u.1, val := itemV u t, born := 0 }] 1) := by rw [← hW3]; exact (World.putObj_heap_other hbq).trans hb2
  have hi3 : W3.heap[w.heap.size + 1]? = some (.mapIter (some b) 1 #[0] 1) := by rw [← hW3]; exact World.putObj_heap_same (by omega)
  have hr3 : W3.heap[w.heap.size]? = some (.cells #[.int .i64 0, .int .u64 0, .int .i64 0, .int .i64 0] 192 (0, 0)) := by rw [← hW3]; exact (World.putObj_heap_other (by omega)).trans hr2
  have hs3 : W3.heap.size = w.heap.size + 2 := by rw [← hW3]; simp [hs2]
  have hen := mrun_entry_one (P := Tryz.prog) hi3 hb3
  have hm3 : Mod [] w W3 := by
    have hm2 := HW.out.2.1
    rw [← hW3]
    exact ⟨hm2.os, hm2.tape, hm2.output, by simpa using hm2.size, fun k hk _ => (World.putObj_heap_other (by omega)).trans (hm2.block k hk (by simp))⟩
  rw [hW3] at hnx
  have hc0 := cell_in hr3 (j := 0) rfl
  have hc1 := cell_in hr3 (j := 1) rfl
  have hc2 := cell_in hr3 (j := 2) rfl
  have hc3 := cell_in hr3 (j := 3) rfl
  have hf0 := free_in (j := 0) hr3
  have hf1 := free_in (j := 1) hr3
  have hf2 := free_in (j := 2) hr3
  have hf3 := free_in (j := 3) hr3
  refine wp_loop_rounds 2 ?_
  rw [rounds_succ]
  unfold itemV at hnx hen
  go_wp2_with fail
  clear hc0 hc1 hc2 hc3 hf0 hf1 hf2 hf3 hnx hen
  obtain ⟨W4, hW4⟩ : ∃ W4, (((((W3.setCell ⟨w.heap.size, 0, none⟩ (.int .i64 u.1)).setCell ⟨w.heap.size, 1, none⟩ (.int .u64 u.2.1)).setCell ⟨w.heap.size, 2, none⟩ (.int .i64 u.2.2)).setCell ⟨w.heap.size, 3, none⟩ (.int .i64 t)).alloc (.cells #[.int .i64 u.1, .int .u64 u.2.1, .int .i64 u.2.2, .int .i64 t] 192)).alloc (.cells #[.int .i64 u.1, .int .u64 u.2.1, .int .i64 u.2.2, .int .i64 t] 192) = W4 := ⟨_, rfl⟩
  have hch : ∀ k, k ≠ w.heap.size → k < W3.heap.size → W4.heap[k]? = W3.heap[k]? := fun k hk hlt => by
    rw [← hW4, Below.heap_alloc _ _ _ (by simp [World.setCell]; omega), Below.heap_alloc _ _ _ (by simpa [World.setCell] using hlt)]
    rw [Below.heap_setCell _ _ _ _ (by simpa using hk), Below.heap_setCell _ _ _ _ (by simpa using hk), Below.heap_setCell _ _ _ _ (by simpa using hk), Below.heap_setCell _ _ _ _ (by simpa using hk)]
  have hb4 := (hch b (by omega) (by omega)).trans hb3
  have hi4 := (hch (w.heap.size + 1) (by omega) (by omega)).trans hi3
  have hr4 : W4.heap[w.heap.size]? = some (.cells #[.int .i64 u.1, .int .u64 u.2.1, .int .i64 u.2.2, .int .i64 t] 192 (0, 0)) := by
    rw [← hW4, Below.heap_alloc _ _ _ (by simp [World.setCell]; omega), Below.heap_alloc _ _ _ (by simp [World.setCell]; omega)]
    simp [World.setCell, Array.getElem?_modify, hr3]
  have hm4 : Mod [] w W4 := by
    rw [← hW4]
    exact (((((hm3.setCell (.inr (by simp)) _).setCell (.inr (by simp)) _).setCell (.inr (by simp)) _).setCell (.inr (by simp)) _).alloc _).alloc _
  have hnx := mrun_next_end (P := Tryz.prog) (ty := 0) hi4 (by omega) hb4
  have HE := Lib.hid (And.intro hm4 hr4)
  rw [hW4]
  clear hW4 hch hb3 hi3 hr3 hs3 hm3 hi4 hr4 hm4 hW3 hb2 hi2 hr2
  rw [rounds_succ]
  go_wp2_with fail
  refine (sort_one _ 1 _ _).mono ?_
  rintro e w5 ⟨rfl, rfl⟩
  go_wp2_with fail
  go_ret
  exact ⟨⟨_, rfl, (Array.getElem?_eq_some_iff.1 HE.out.2).1, Nat.le_refl _, _, HE.out.2, rfl, rfl, rfl, rfl⟩, HE.out.1⟩

set_option maxRecDepth 100000 in
set_option maxHeartbeats 4000000 in
theorem qput_none (q o : Nat) (u : Int × Int × Int) (hn : 0 ≤ u.1 ∧ u.1 < 64) (hs : 0 ≤ u.2.2 ∧ u.2.2 ≤ 3) (w : World) (hq : w.cell? ⟨q, o, none⟩ = some (.map none)) (hf : w.frozen? ⟨q, o, none⟩ = false) :
    Calls Tryz.prog 46 #[.pointer (some ⟨q, o, none⟩), updV u] w fun e w' => e = .returned (.int .i64 0) ∧ (∃ b, w'.cell? ⟨q, o, none⟩ = some (.map (some b)) ∧ OneMap w' b u 0 ∧ w.heap.size ≤ b) ∧ (∀ j, j ≠ o → w'.cell? ⟨q, j, none⟩ = w.cell? ⟨q, j, none⟩) ∧ (∀ j, w'.frozen? ⟨q, j, none⟩ = w.frozen? ⟨q, j, none⟩) ∧ Mod [q] w w' := by
  have hz : ∀ w : World, (zeroValue 192).run Tryz.prog w = .ok (itemV (0, 0, 0) 0) w := fun w => by kernel_rfl
  have hlk : ∀ w : World, (Instr.lookup 70 (.map none) (.int .i64 u.1) true).run Tryz.prog w = .ok (.tuple #[itemV (0, 0, 0) 0, .bool false]) w := fun w => mrun_look_nil (P := Tryz.prog) Tryz.underlying70 Tryz.underlying3 (hz w)
  have hmm := @run_makeMap Tryz.prog
  have hbo : ∀ w : World, (binOp .eql 70 (.map none) (.map none)).run Tryz.prog w = .ok (.bool true) w := fun w => by kernel_rfl
  have hql := block_lt_of_cell hq
  obtain ⟨un, ui, us⟩ := u
  unfold updV
  unfold itemV at hlk
  simp only at hn hs hlk ⊢
  have HQ := Lib.hid (And.intro hq hf)
  clear hz hq hf
  go_enter Tryz.func46, Tryz.ntmps46
  go_wp2_with fail
  refine (rmay_is un ui us hn hs _).mono ?_
  rintro e w1 ⟨rfl, hM⟩
  have hM1 := ((Mod.refl [] w).alloc _).trans hM
  have d0 : w1.cell? ⟨w.heap.size, 0, none⟩ = some (.int .i64 un) := (hM.cell (by simp) (by simp)).trans (cell_in (heap_new _ _) rfl)
  have d1 : w1.cell? ⟨w.heap.size, 1, none⟩ = some (.int .u64 ui) := (hM.cell (by simp) (by simp)).trans (cell_in (heap_new _ _) rfl)
  have d2 : w1.cell? ⟨w.heap.size, 2, none⟩ = some (.int .i64 us) := (hM.cell (by simp) (by simp)).trans (cell_in (heap_new _ _) rfl)
  have hq := (hM1.cell (by exact hql) (by simp)).trans HQ.out.1
  have hf := (hM1.frozen (by exact hql) (by simp)).trans HQ.out.2
  have hs1 := hM1.size
  have hs1' : w.heap.size < w1.heap.size := Nat.lt_of_lt_of_le (by simp) hM.size
  have HM := Lib.hid hM1
  have hql1 : q < w1.heap.size := by omega
  have hne1 : ¬ q = w1.heap.size := by omega
  clear hM hM1
  go_wp2_with fail
  go_region
  go_wp2
  obtain ⟨b, hbn⟩ : ∃ b, w1.heap.size + 1 = b := ⟨_, rfl⟩
  obtain ⟨W3, hW3⟩ : ∃ W3, (((w1.setCell ⟨q, o, none⟩ (.map (some (w1.heap.size + 1)))).alloc (.cells #[.int .i64 0, .int .u64 0, .int .i64 0, .int .i64 0] 192)).alloc (.map #[] 0)).drew = W3 := ⟨_, rfl⟩
  have hch : Mod [q] w1 W3 := by rw [← hW3]; exact ((((Mod.refl [q] w1).setCell (.inl (by simp)) _).alloc _).alloc _).drew
  have hqo : W3.cell? ⟨q, o, none⟩ = some (.map (some b)) := by
    rw [← hW3, ← hbn]
    simp only [World.cell?_drew]
    rw [World.cell?_of_block (w := w1.setCell ⟨q, o, none⟩ (.map (some (w1.heap.size + 1)))) ((Below.heap_alloc _ _ _ (by simp [World.setCell]; omega)).trans (Below.heap_alloc _ _ _ (by simp [World.setCell]; omega)))]
    exact cell_set_same hq
  have hmb : W3.heap[b]? = some (.map #[] 0) := by rw [← hW3, ← hbn]; exact heap_at _ _ _ (by simp [World.setCell])
  have hoth : ∀ j, j ≠ o → W3.cell? ⟨q, j, none⟩ = w1.cell? ⟨q, j, none⟩ := fun j hj => by
    rw [← hW3]
    simp only [World.cell?_drew]
    rw [World.cell?_of_block (w := w1.setCell ⟨q, o, none⟩ (.map (some (w1.heap.size + 1)))) ((Below.heap_alloc _ _ _ (by simp [World.setCell]; omega)).trans (Below.heap_alloc _ _ _ (by simp [World.setCell]; omega)))]
    exact cell_set_off _ _ _ _ (by simpa using fun e => hj e.symm)
  have hfr : ∀ j, W3.frozen? ⟨q, j, none⟩ = w1.frozen? ⟨q, j, none⟩ := fun j => by
    rw [← hW3]
    simp only [World.frozen?_drew]
    rw [World.frozen?_of_block (w := w1.setCell ⟨q, o, none⟩ (.map (some (w1.heap.size + 1)))) ((Below.heap_alloc _ _ _ (by simp [World.setCell]; omega)).trans (Below.heap_alloc _ _ _ (by simp [World.setCell]; omega)))]
    exact World.frozen?_setCell _ _ _ _
  have e0 := hch.at d0 (by simp; omega)
  have e1 := hch.at d1 (by simp; omega)
  have e2 := hch.at d2 (by simp; omega)
  have hbq : b ≠ q := by omega
  have HW3 := Lib.hid (And.intro hch (And.intro hoth hfr))
  rw [hbn]
  rw [hbn] at hW3
  rw [hW3]
  have hup := mrun_update_new (P := Tryz.prog) (w := W3.drew) (v := .agg #[.int .i64 un, .int .u64 ui, .int .i64 us, .int .i64 0]) (k := un) Tryz.underlying70 Tryz.underlying3 (show W3.drew.heap[b]? = some (.map #[] 0) from hmb)
  obtain ⟨W4, hW4⟩ : ∃ W4, W3.drew.putObj b (.map #[{ key := .int .i64 un, val := .agg #[.int .i64 un, .int .u64 ui, .int .i64 us, .int .i64 0], born := 0 }] (0 + 1)) = W4 := ⟨_, rfl⟩
  have hob4 : OneMap W4 b (un, ui, us) 0 := by rw [← hW4]; exact World.putObj_heap_same (Array.getElem?_eq_some_iff.1 hmb).1
  have hm4 : ∀ k, k ≠ b → W4.heap[k]? = W3.heap[k]? := fun k hk => by rw [← hW4]; exact World.putObj_heap_other hk
  have hq4 : W4.cell? ⟨q, o, none⟩ = some (.map (some b)) := (World.cell?_of_block (w := W3) (hm4 q (Ne.symm hbq))).trans hqo
  have hmod4 : Mod [q] w W4 := by
    have h1 := HM.out
    have h2 := HW3.out.1
    have h3 : Mod [b] W3 W4 := by rw [← hW4]; exact ⟨rfl, rfl, rfl, by simp, fun k _ hk => World.putObj_heap_other (by simpa using hk)⟩
    exact ((h1.mono (T := [q]) (by simp)).trans h2).step h3 (fun t ht => .inr (by simp at ht; omega))
  have hoth4 : ∀ j, j ≠ o → W4.cell? ⟨q, j, none⟩ = w.cell? ⟨q, j, none⟩ := fun j hj => (World.cell?_of_block (w := W3) (hm4 q (Ne.symm hbq))).trans ((hoth j hj).trans (HM.out.cell hql (by simp)))
  have hfr4 : ∀ j, W4.frozen? ⟨q, j, none⟩ = w.frozen? ⟨q, j, none⟩ := fun j => (World.frozen?_of_block (w := W3) (hm4 q (Ne.symm hbq))).trans ((hfr j).trans (HM.out.frozen hql (by simp)))
  have H4 := Lib.hid (And.intro hob4 (And.intro hq4 (And.intro hmod4 (And.intro hoth4 hfr4))))
  have hbw : w.heap.size ≤ b := by omega
  rw [hW4] at hup
  clear hmb hoth hfr hch hW3 hW4 hob4 hm4 hq4 hmod4 hoth4 hfr4 d0 d1 d2 hq hf hlk hmm hbo
  go_region
  go_wp2_with fail
  refine (items_one q o b (un, ui, us) 0 _ H4.out.2.1 H4.out.1).mono ?_
  rintro e w6 ⟨⟨a6, rfl, _⟩, hM6⟩
  go_wp2_with fail
  go_ret
  obtain ⟨hob4, hq4, hmod4, hoth4, hfr4⟩ := H4.out
  have hb4 := (Array.getElem?_eq_some_iff.1 hob4).1
  have hql4 := block_lt_of_cell hq4
  refine ⟨rfl, ⟨b, (hM6.cell hql4 (by simp)).trans hq4, (hM6.block b hb4 (by simp)).trans hob4, hbw⟩, fun j hj => (hM6.cell (by exact hql4) (by simp)).trans (hoth4 j hj), fun j => (hM6.frozen (by exact hql4) (by simp)).trans (hfr4 j), hmod4.trans (hM6.mono (by simp))⟩

end Go.Proofs.YtaaaiggbnkeblaaGreatDoor
