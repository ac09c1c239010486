/-
  The walks of package roll: put, New, Mine, Get.
-/
import Derived.Test.YtpbamamplmbgjaaGreatDoorTopR
import Derived.Deep.RegionWith
import Derived.Deep.RegionHeld3
namespace Go.Proofs.YtpbamamplmbgjaaGreatDoor
set_option linter.unusedSimpArgs false
set_option linter.unusedVariables false
open Go.RowKit

/-- A roll at block r: whose it is, what it knows (node, number, state), of whom. -/
structure RollAt (w : World) (r : Nat) (me : Int) (f : Nat → Int × Int × Int) (has : Int) : Prop where
  lt : r < w.heap.size
  me : w.cell? ⟨r, 0, none⟩ = some (.int .i64 me)
  node : ∀ n, n < 64 → w.cell? ⟨r, 1 + n * 3, none⟩ = some (.int .i64 (f n).1)
  inc : ∀ n, n < 64 → w.cell? ⟨r, 1 + n * 3 + 1, none⟩ = some (.int .u64 (f n).2.1)
  state : ∀ n, n < 64 → w.cell? ⟨r, 1 + n * 3 + 2, none⟩ = some (.int .i64 (f n).2.2)
  has : w.cell? ⟨r, 193, none⟩ = some (.int .u64 has)
  free : ∀ j, w.frozen? ⟨r, j, none⟩ = false

theorem RollAt.mod {S : List Nat} {w w' : World} {r : Nat} {me : Int} {f : Nat → Int × Int × Int} {has : Int} (h : RollAt w r me f has) (hm : Mod S w w') (hs : r ∉ S) : RollAt w' r me f has :=
  ⟨Nat.lt_of_lt_of_le h.lt hm.size, (hm.cell h.lt hs).trans h.me, fun n hn => (hm.cell h.lt hs).trans (h.node n hn), fun n hn => (hm.cell h.lt hs).trans (h.inc n hn), fun n hn => (hm.cell h.lt hs).trans (h.state n hn), (hm.cell h.lt hs).trans h.has, fun j => (hm.frozen h.lt hs).trans (h.free j)⟩

def rollPut (f : Nat → Int × Int × Int) (n : Nat) (u : Int × Int × Int) : Nat → Int × Int × Int := fun k => if k = n then u else f k

theorem cell_is_some {w : World} {p : Addr} {v : Value} (h : w.cell? p = some v) : (w.cell? p).isSome = true := by rw [h]; rfl

theorem RollAt.set3 {w : World} {r n : Nat} {me has inc st : Int} {f : Nat → Int × Int × Int} (h : RollAt w r me f has) (hn : n < 64) :
    RollAt (((w.setCell ⟨r, 1 + n * 3, none⟩ (.int .i64 n)).setCell ⟨r, 1 + n * 3 + 1, none⟩ (.int .u64 inc)).setCell ⟨r, 1 + n * 3 + 2, none⟩ (.int .i64 st)) r me (rollPut f n (n, inc, st)) has := by
  have s2 : ∀ (w : World) v u, w.cell? ⟨r, 1 + n * 3 + 1, none⟩ = some v → (w.setCell ⟨r, 1 + n * 3 + 1, none⟩ u).cell? ⟨r, 1 + n * 3 + 1, none⟩ = some u := fun w v u h => cell_set_same h
  refine ⟨by simpa [World.setCell] using h.lt, ?_, fun k hk => ?_, fun k hk => ?_, fun k hk => ?_, ?_, fun j => ?_⟩
  · rw [cell_set_off _ _ _ _ (by first | (simp; done) | (simp; omega)), cell_set_off _ _ _ _ (by first | (simp; done) | (simp; omega)), cell_set_off _ _ _ _ (by first | (simp; done) | (simp; omega))]; exact h.me
  · by_cases e : k = n
    · subst e
      rw [cell_set_off _ _ _ _ (by first | (simp; done) | (simp; omega)), cell_set_off _ _ _ _ (by first | (simp; done) | (simp; omega)), cell_set_same (h.node k hk)]
      simp [rollPut]
    · rw [cell_set_off _ _ _ _ (by first | (simp; done) | (simp; omega)), cell_set_off _ _ _ _ (by first | (simp; done) | (simp; omega)), cell_set_off _ _ _ _ (by first | (simp; done) | (simp; omega)), h.node k hk]
      simp [rollPut, e]
  · by_cases e : k = n
    · subst e
      rw [cell_set_off _ _ _ _ (by first | (simp; done) | (simp; omega)), cell_set_same ((cell_set_off _ _ _ _ (by first | (simp; done) | (simp; omega))).trans (h.inc k hk))]
      simp [rollPut]
    · rw [cell_set_off _ _ _ _ (by first | (simp; done) | (simp; omega)), cell_set_off _ _ _ _ (by first | (simp; done) | (simp; omega)), cell_set_off _ _ _ _ (by first | (simp; done) | (simp; omega)), h.inc k hk]
      simp [rollPut, e]
  · by_cases e : k = n
    · subst e
      rw [cell_set_same ((cell_set_off _ _ _ _ (by first | (simp; done) | (simp; omega))).trans ((cell_set_off _ _ _ _ (by first | (simp; done) | (simp; omega))).trans (h.state k hk)))]
      simp [rollPut]
    · rw [cell_set_off _ _ _ _ (by first | (simp; done) | (simp; omega)), cell_set_off _ _ _ _ (by first | (simp; done) | (simp; omega)), cell_set_off _ _ _ _ (by first | (simp; done) | (simp; omega)), h.state k hk]
      simp [rollPut, e]
  · rw [cell_set_off _ _ _ _ (by first | (simp; done) | (simp; omega)), cell_set_off _ _ _ _ (by first | (simp; done) | (simp; omega)), cell_set_off _ _ _ _ (by first | (simp; done) | (simp; omega))]; exact h.has
  · simpa using h.free j
theorem RollAt.setHas {w : World} {r : Nat} {me has has' : Int} {f : Nat → Int × Int × Int} (h : RollAt w r me f has) : RollAt (w.setCell ⟨r, 193, none⟩ (.int .u64 has')) r me f has' := by
  refine ⟨by simpa [World.setCell] using h.lt, ?_, fun k hk => ?_, fun k hk => ?_, fun k hk => ?_, cell_set_same h.has, fun j => by simpa using h.free j⟩
  · rw [cell_set_off _ _ _ _ (by simp)]; exact h.me
  · rw [cell_set_off _ _ _ _ (by first | (simp; done) | (simp; omega))]; exact h.node k hk
  · rw [cell_set_off _ _ _ _ (by first | (simp; done) | (simp; omega))]; exact h.inc k hk
  · rw [cell_set_off _ _ _ _ (by first | (simp; done) | (simp; omega))]; exact h.state k hk

set_option maxHeartbeats 4000000 in
theorem put_any (r n : Nat) (me inc st has has' : Int) (f : Nat → Int × Int × Int) (w : World) (h : RollAt w r me f has) (hn : n < 64) (hor : bits .or .u64 has (2 ^ n) = has') :
    Calls Tryz.prog 41 #[.pointer (some ⟨r, 0, none⟩), .agg #[.int .i64 n, .int .u64 inc, .int .i64 st]] w fun e w' => e = .returned (.tuple #[]) ∧ RollAt w' r me (rollPut f n (n, inc, st)) has' ∧ Mod [r] w w' := by
  have H := Lib.hid h
  have c0 := h.node n hn
  have c1 := h.inc n hn
  have c2 := h.state n hn
  have c3 := h.has
  have f0 := h.free (1 + n * 3)
  have f1 := h.free (1 + n * 3 + 1)
  have f2 := h.free (1 + n * 3 + 2)
  have f3 := h.free 193
  have hrl := h.lt
  clear h
  go_enter Tryz.func41, Tryz.ntmps41
  go_wp2_with fail
  go_region
  go_wp2
  obtain ⟨W, hW⟩ : ∃ W, ((((w.setCell ⟨r, 1 + n * 3, none⟩ (.int .i64 n)).setCell ⟨r, 1 + n * 3 + 1, none⟩ (.int .u64 inc)).setCell ⟨r, 1 + n * 3 + 2, none⟩ (.int .i64 st)).alloc (.cells #[.int .i64 n, .int .u64 inc, .int .i64 st] 24)).drew = W := ⟨_, rfl⟩
  have hRW : RollAt W r me (rollPut f n (n, inc, st)) has := by
    rw [← hW]
    exact (H.out.set3 hn).mod (((Mod.refl [] _).alloc _).drew) (by simp)
  have hMW : Mod [r] w W := by
    rw [← hW]
    exact (((((Mod.refl [r] w).setCell (.inl (by simp)) _).setCell (.inl (by simp)) _).setCell (.inl (by simp)) _).alloc _).drew
  have e2 : W.cell? ⟨w.heap.size, 0, none⟩ = some (.int .i64 n) := by
    rw [← hW]
    exact cell_in (heap_at _ _ _ (by simp [World.setCell])) rfl
  have e1 := hRW.has
  have e3 := hRW.free 193
  have HW := Lib.hid (And.intro hRW hMW)
  rw [hW]
  clear hW c0 c1 c2 c3 f0 f1 f2 f3 hRW hMW
  go_region_with (go_at_call 49; refine (with_is has has' n hn hor _).mono ?_; rintro e w5 ⟨rfl, rfl⟩)
  all_goals
    refine bodyPost_end (results_none rfl _ _ _) rfl ?_
    exact ⟨rfl, HW.out.1.setHas.mod (Mod.refl [] _).drew (by simp), (HW.out.2.setCell (.inl (by simp)) _).drew⟩

def isInt (o : Option Value) (k : IntKind) (n : Int) : Bool := match o with
  | some (.int k' n') => decide (k' = k) && decide (n' = n)
  | _ => false
theorem isInt_eq {o : Option Value} {k : IntKind} {n : Int} (h : isInt o k n = true) : o = some (.int k n) := by
  unfold isInt at h
  split at h
  · simp only [Bool.and_eq_true, decide_eq_true_eq] at h
    rw [h.1, h.2]
  · cases h

set_option maxRecDepth 100000 in
set_option maxHeartbeats 1000000 in
theorem roll_new (me : Nat) (hme : me < 64) (w : World) : Calls Tryz.prog 9 #[.int .i64 me] w fun e w' => e = .returned (.pointer (some ⟨w.heap.size, 0, none⟩)) ∧ RollAt w' w.heap.size me (rollPut (fun _ => (0, 0, 0)) me (me, 0, 0)) (2 ^ me) ∧ Mod [] w w' := by
  have hz : RollAt (w.alloc (.cells (Tryz.zeroCells119.setIfInBounds 0 (.int .i64 me)) 119)) w.heap.size me (fun _ => (0, 0, 0)) 0 := by
    have hz0 : ∀ j, j < 64 → (Tryz.zeroCells119[1 + j * 3]? = some (.int .i64 0) ∧ Tryz.zeroCells119[1 + j * 3 + 1]? = some (.int .u64 0) ∧ Tryz.zeroCells119[1 + j * 3 + 2]? = some (.int .i64 0)) := by
      intro j hj
      have h1 : ∀ k : Fin 64, isInt Tryz.zeroCells119[1 + k.val * 3]? .i64 0 = true ∧ isInt Tryz.zeroCells119[1 + k.val * 3 + 1]? .u64 0 = true ∧ isInt Tryz.zeroCells119[1 + k.val * 3 + 2]? .i64 0 = true := by decide +kernel
      exact ⟨isInt_eq (h1 ⟨j, hj⟩).1, isInt_eq (h1 ⟨j, hj⟩).2.1, isInt_eq (h1 ⟨j, hj⟩).2.2⟩
    refine ⟨by simp, cell_in (heap_new _ _) ?_, fun n hn => cell_in (heap_new _ _) ?_, fun n hn => cell_in (heap_new _ _) ?_, fun n hn => cell_in (heap_new _ _) ?_, cell_in (heap_new _ _) ?_, fun j => free_in (heap_new _ _)⟩
    · rw [Array.getElem?_setIfInBounds_self_of_lt (by decide +kernel)]
    · rw [Array.getElem?_setIfInBounds_ne (by omega)]; exact (hz0 n hn).1
    · rw [Array.getElem?_setIfInBounds_ne (by omega)]; exact (hz0 n hn).2.1
    · rw [Array.getElem?_setIfInBounds_ne (by omega)]; exact (hz0 n hn).2.2
    · rw [Array.getElem?_setIfInBounds_ne (by omega)]; exact isInt_eq (by decide +kernel)
  have HZ := Lib.hid hz
  have hor : bits .or .u64 0 (2 ^ me) = 2 ^ me := by
    have h1 : ∀ k : Fin 64, bits .or .u64 0 (2 ^ k.val) = 2 ^ k.val := by decide +kernel
    exact h1 ⟨me, hme⟩
  clear hz
  go_enter Tryz.func9, Tryz.ntmps9
  go_wp2_with fail
  refine (put_any w.heap.size me me 0 0 0 (2 ^ me) _ _ HZ.out hme hor).mono ?_
  rintro e w1 ⟨rfl, hR, hM⟩
  go_wp2_with fail
  go_ret
  exact ⟨rfl, hR, ((Mod.refl [] w).alloc _).step hM (by simp)⟩

end Go.Proofs.YtpbamamplmbgjaaGreatDoor
