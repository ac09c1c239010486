/-
  The walks of package detect at a detector that knows itself alone: New, take and Know of itself.
  The walks of package turn: New, Frozen, Decided.
  The walks of what a detector's Tick calls where it has no watch, no errand, no doubt and no other: slices.IndexFunc, DeleteFunc, Sort; doubt.All, Over; round.Next.
  The walk of mend.Stable at one member.
-/
import Derived.Test.YtaaaiggbnkeblaaGreatDoorMTopE
import Derived.Deep.DeepCutAuto
namespace Go.Proofs.YtaaaiggbnkeblaaGreatDoor
set_option linter.unusedSimpArgs false
set_option linter.unusedVariables false
open Go.RowKit

theorem Mod.cells {a b : World} (h : Mod [] a b) : ∀ k j s, k < a.heap.size → b.cell? ⟨k, j, s⟩ = a.cell? ⟨k, j, s⟩ := fun k j s hk => h.cell (p := ⟨k, j, s⟩) hk (by simp)
theorem Mod.frees {a b : World} (h : Mod [] a b) : ∀ k j s, k < a.heap.size → b.frozen? ⟨k, j, s⟩ = a.frozen? ⟨k, j, s⟩ := fun k j s hk => h.frozen (p := ⟨k, j, s⟩) hk (by simp)

theorem row_keep {a b : World} (h : Mod [] a b) {g : Nat} {o : Obj} (hg : a.heap[g]? = some o) : b.heap[g]? = some o := (h.block g (Array.getElem?_eq_some_iff.1 hg).1 (by simp)).trans hg
theorem heap_new_drew (w : World) (o : Obj) : ((w.alloc o).drew).heap[w.heap.size]? = some o := heap_new w o
/-- Three cells of an update's block that a call made. -/
def Zeros (w : World) (g : Nat) : Prop := (w.cell? ⟨g, 0, none⟩ = some (.int .i64 0) ∧ w.cell? ⟨g, 1, none⟩ = some (.int .u64 0) ∧ w.cell? ⟨g, 2, none⟩ = some (.int .i64 0)) ∧ w.frozen? ⟨g, 0, none⟩ = false ∧ w.frozen? ⟨g, 1, none⟩ = false ∧ w.frozen? ⟨g, 2, none⟩ = false
theorem zeros_of {w : World} {g : Nat} (h : w.heap[g]? = some (.cells #[.int .i64 0, .int .u64 0, .int .i64 0] 55 (0, 0))) : Zeros w g :=
  ⟨⟨cell_in h rfl, cell_in h rfl, cell_in h rfl⟩, free_in h, free_in h, free_in h⟩

theorem set_same_cells {w : World} {a : Addr} {v : Value} (h : w.cell? a = some v) (b : Addr) : (w.setCell a v).cell? b = w.cell? b := by
  by_cases e : b = a
  · subst e; rw [cell_set_same h, h]
  · exact World.cell?_setCell_other _ _ _ _ (fun h => e h.symm)
theorem Zeros.mod {a b : World} {g : Nat} (h : Zeros a g) (m : Mod [] a b) : Zeros b g :=
  have hl : g < a.heap.size := block_lt_of_cell h.1.1
  ⟨⟨m.at h.1.1 (by simp), m.at h.1.2.1 (by simp), m.at h.1.2.2 (by simp)⟩, (m.frozen hl (by simp)).trans h.2.1, (m.frozen hl (by simp)).trans h.2.2.1, (m.frozen hl (by simp)).trans h.2.2.2⟩
theorem zeros_set {w : World} {g : Nat} (h : Zeros w g) : Zeros (((w.setCell ⟨g, 0, none⟩ (.int .i64 0)).setCell ⟨g, 1, none⟩ (.int .u64 0)).setCell ⟨g, 2, none⟩ (.int .i64 0)) g := by
  obtain ⟨⟨a, b, c⟩, f⟩ := h
  have e1 := set_same_cells a
  have b1 := (e1 ⟨g, 1, none⟩).trans b
  have e2 := set_same_cells b1
  have c2 := (e2 ⟨g, 2, none⟩).trans ((e1 _).trans c)
  have e3 := set_same_cells c2
  refine ⟨⟨(e3 _).trans ((e2 _).trans ((e1 _).trans a)), (e3 _).trans ((e2 _).trans b1), (e3 _).trans c2⟩, ?_⟩
  simpa only [World.frozen?_setCell] using f

/-- A detector of node 0 at block d, its roll at r; seq, now. -/
structure DetAt (w : World) (d r : Nat) (now : Int) : Prop where
  roll : w.cell? ⟨d, 0, none⟩ = some (.pointer (some ⟨r, 0, none⟩))
  left : w.cell? ⟨d, 1, none⟩ = some (.slice none 0 0)
  me : w.cell? ⟨d, 2, none⟩ = some (.int .i64 0)
  doubts : w.cell? ⟨d, 4, none⟩ = some (.map none)
  watches : w.cell? ⟨d, 5, none⟩ = some (.slice none 0 0)
  errands : w.cell? ⟨d, 6, none⟩ = some (.slice none 0 0)
  now : w.cell? ⟨d, 8, none⟩ = some (.int .u64 now)
  gone : w.cell? ⟨d, 9, none⟩ = some (.bool false)
  free : ∀ j, w.frozen? ⟨d, j, none⟩ = false
  roll0 : Roll0 w r

theorem DetAt.lt {w : World} {d r : Nat} {now : Int} (h : DetAt w d r now) : d < w.heap.size := block_lt_of_cell h.roll
theorem DetAt.mod {S : List Nat} {w w' : World} {d r : Nat} {now : Int} (h : DetAt w d r now) (hm : Mod S w w') (hd : d ∉ S) (hr : r ∉ S) : DetAt w' d r now :=
  ⟨hm.at h.roll hd, hm.at h.left hd, hm.at h.me hd, hm.at h.doubts hd, hm.at h.watches hd, hm.at h.errands hd, hm.at h.now hd, hm.at h.gone hd, fun j => (hm.frozen (by exact h.lt) hd).trans (h.free j), h.roll0.mod hm hr⟩

def U0 : Value := .agg #[.int .i64 0, .int .u64 0, .int .i64 0]

theorem mine0 (r : Nat) (w : World) (h : Roll0 w r) : Calls Tryz.prog 47 #[.pointer (some ⟨r, 0, none⟩)] w fun e w' => e = .returned (.agg #[.int .i64 0, .int .u64 0, .int .i64 0]) ∧ Mod [] w w' :=
  mine_any r 0 (by decide) _ 1 w h
theorem get0 (r : Nat) (w : World) (h : Roll0 w r) : Calls Tryz.prog 49 #[.pointer (some ⟨r, 0, none⟩), .int .i64 0] w fun e w' => e = .returned (.tuple #[.agg #[.int .i64 0, .int .u64 0, .int .i64 0], .bool true]) ∧ Mod [] w w' :=
  get_has r 0 (by decide) 0 1 _ w h has_zero
theorem hear0 (r : Nat) (w : World) (h : Roll0 w r) : Calls Tryz.prog 97 #[.pointer (some ⟨r, 0, none⟩), .agg #[.int .i64 0, .int .u64 0, .int .i64 0]] w fun e w' => e = .returned (.tuple #[.bool false, .int .i64 70]) ∧ Mod [] w w' :=
  hear_own_old r 0 (by decide) _ 1 0 0 (by decide) w h (by decide)
theorem qput0 (q o : Nat) (w : World) (hq : w.cell? ⟨q, o, none⟩ = some (.map none)) (hf : w.frozen? ⟨q, o, none⟩ = false) :
    Calls Tryz.prog 46 #[.pointer (some ⟨q, o, none⟩), .agg #[.int .i64 0, .int .u64 0, .int .i64 0]] w fun e w' => e = .returned (.int .i64 0) ∧ (∀ j, j ≠ o → w'.cell? ⟨q, j, none⟩ = w.cell? ⟨q, j, none⟩) ∧ (∀ j, w'.frozen? ⟨q, j, none⟩ = w.frozen? ⟨q, j, none⟩) ∧ Mod [q] w w' :=
  (qput_none q o (0, 0, 0) (by decide) (by decide) w hq hf).mono fun e w' h => ⟨h.1, h.2.2.1, h.2.2.2.1, h.2.2.2.2⟩

def DetNew (w : World) (e : Ending) (w' : World) : Prop := ∃ d r, e = .returned (.pointer (some ⟨d, 0, none⟩)) ∧ DetAt w' d r 0 ∧ w.heap.size ≤ d ∧ w.heap.size ≤ r ∧ d ≠ r ∧ Mod [] w w'

set_option maxRecDepth 100000 in
set_option maxHeartbeats 4000000 in
theorem det_new (w : World) : Calls Tryz.prog 11 #[.int .i64 0] w (DetNew w) := by
  have hpn : ∀ (a : Addr) (w : World), (binOp .eql 66 (.pointer (some a)) (.pointer none)).run Tryz.prog w = .ok (.bool false) w := fun a w => by kernel_rfl
  go_enter Tryz.func11, Tryz.ntmps11
  go_wp2_with fail
  refine (roll_new 0 (by decide) _).mono ?_
  rintro e w1 ⟨rfl, hR, hM⟩
  have HR := Lib.hid (show Roll0 w1 w.heap.size from hR)
  have HM := Lib.hid hM
  clear hR hM
  go_wp2_with fail
  obtain ⟨d, hd⟩ : ∃ d, w1.heap.size = d := ⟨_, rfl⟩
  obtain ⟨r, hr⟩ : ∃ r, w.heap.size = r := ⟨_, rfl⟩
  obtain ⟨W, hW⟩ : ∃ W, w1.alloc (.cells #[.pointer (some ⟨r, 0, none⟩), .slice none 0 0, .int .i64 0, .map none, .map none, .slice none 0 0, .slice none 0 0, .int .u64 0, .int .u64 0, .bool false] 79) = W := ⟨_, rfl⟩
  have hh : W.heap[d]? = some (.cells #[.pointer (some ⟨r, 0, none⟩), .slice none 0 0, .int .i64 0, .map none, .map none, .slice none 0 0, .slice none 0 0, .int .u64 0, .int .u64 0, .bool false] 79 (0, 0)) := by rw [← hW, ← hd]; exact heap_new _ _
  have hrd : r < d := by rw [← hd, ← hr]; exact HR.out.lt
  have hRW : Roll0 W r := by rw [← hW, ← hr]; exact HR.out.mod ((Mod.refl [] _).alloc _) (by simp)
  have hMW : Mod [] w W := by rw [← hW]; exact HM.out.alloc _
  have hq := cell_in hh (j := 3) rfl
  have hqf := free_in (j := 3) hh
  have H := Lib.hid (And.intro hh (And.intro hRW hMW))
  have HRD := Lib.hid (And.intro hrd hr)
  try rw [hr]
  try rw [hd]
  try rw [hW]
  clear hr hd hW hh hRW hMW hrd HR HM hpn
  go_region_with (first | (go_at_call 47; refine (mine0 r _ (H.out.2.1.mod (Mod.refl [] _).drew (by simp))).mono ?_; rintro e w2 ⟨rfl, hM2⟩; have HM2 := Lib.hid ((Mod.refl [] _).drew.trans hM2); clear hM2) | (go_at_call 46; refine (qput0 d 3 _ (HM2.out.at hq (by simp)) ((HM2.out.frozen (block_lt_of_cell hq) (by simp)).trans hqf)).mono ?_; rintro e w3 ⟨rfl, hoth, hfr, hM3⟩; have H3 := Lib.hid (And.intro hoth (And.intro hfr hM3)); clear hoth hfr hM3))
  go_wp2
  go_ret
  obtain ⟨hh, hRW, hMW⟩ := H.out
  obtain ⟨hoth, hfr, hM3⟩ := H3.out
  have hdl : d < W.heap.size := (Array.getElem?_eq_some_iff.1 hh).1
  have hc : ∀ j v, j ≠ 3 → (#[Value.pointer (some ⟨r, 0, none⟩), .slice none 0 0, .int .i64 0, .map none, .map none, .slice none 0 0, .slice none 0 0, .int .u64 0, .int .u64 0, .bool false] : Array Value)[j]? = some v → w3.cell? ⟨d, j, none⟩ = some v := fun j v hj hv =>
    (hoth j hj).trans (HM2.out.at (cell_in hh hv) (by simp))
  have hws : w.heap.size = r := HRD.out.2
  refine ⟨d, r, rfl, ⟨hc 0 _ (by decide) rfl, hc 1 _ (by decide) rfl, hc 2 _ (by decide) rfl, hc 4 _ (by decide) rfl, hc 5 _ (by decide) rfl, hc 6 _ (by decide) rfl, hc 8 _ (by decide) rfl, hc 9 _ (by decide) rfl, fun j => (hfr j).trans ((HM2.out.frozen (by exact hdl) (by simp)).trans (free_in hh)), (hRW.mod HM2.out (by simp)).mod hM3 (by have := HRD.out.1; simp; omega)⟩, ?_, ?_, ?_, ?_⟩
  · have := HRD.out.1; omega
  · omega
  · have := HRD.out.1; omega
  · have := HRD.out.1
    exact (hMW.trans HM2.out).step hM3 (fun t ht => .inr (by simp at ht; omega))

end Go.Proofs.YtaaaiggbnkeblaaGreatDoor

namespace Go.Proofs.YtaaaiggbnkeblaaGreatDoor
set_option linter.unusedSimpArgs false
set_option linter.unusedVariables false
open Go.RowKit

/-- The cells of a turn that has just begun. -/
noncomputable def turnCells (n id ms : Int) : Array Value := ((Tryz.zeroCells92.setIfInBounds 4 (.int .i64 n)).setIfInBounds 5 (.int .u64 id)).setIfInBounds 6 (.int .u64 ms)
def Turn0 (w : World) (t : Nat) (n id ms : Int) : Prop := w.heap[t]? = some (.cells (turnCells n id ms) 92 (0, 0))
theorem Turn0.mod {S : List Nat} {w w' : World} {t : Nat} {n id ms : Int} (h : Turn0 w t n id ms) (hm : Mod S w w') (hs : t ∉ S) : Turn0 w' t n id ms := (hm.block t (Array.getElem?_eq_some_iff.1 h).1 hs).trans h
theorem Turn0.lt {w : World} {t : Nat} {n id ms : Int} (h : Turn0 w t n id ms) : t < w.heap.size := (Array.getElem?_eq_some_iff.1 h).1
theorem turnCells_size : (Tryz.zeroCells92).size = 215 := by kernel_rfl
theorem turnCells_other (n id ms : Int) (j : Nat) (v : Value) (h : Tryz.zeroCells92[j]? = some v) (h4 : j ≠ 4) (h5 : j ≠ 5) (h6 : j ≠ 6) : (turnCells n id ms)[j]? = some v := by
  unfold turnCells
  rw [Array.getElem?_setIfInBounds_ne (by omega), Array.getElem?_setIfInBounds_ne (by omega), Array.getElem?_setIfInBounds_ne (by omega), h]
theorem Turn0.c4 {w : World} {t : Nat} {n id ms : Int} (h : Turn0 w t n id ms) : w.cell? ⟨t, 4, none⟩ = some (.int .i64 n) := cell_in h (by
  unfold turnCells
  rw [Array.getElem?_setIfInBounds_ne (by omega), Array.getElem?_setIfInBounds_ne (by omega), Array.getElem?_setIfInBounds_self_of_lt (by rw [turnCells_size]; omega)])
theorem Turn0.c5 {w : World} {t : Nat} {n id ms : Int} (h : Turn0 w t n id ms) : w.cell? ⟨t, 5, none⟩ = some (.int .u64 id) := cell_in h (by
  unfold turnCells
  rw [Array.getElem?_setIfInBounds_ne (by omega), Array.getElem?_setIfInBounds_self_of_lt (by rw [Array.size_setIfInBounds, turnCells_size]; omega)])
theorem Turn0.c6 {w : World} {t : Nat} {n id ms : Int} (h : Turn0 w t n id ms) : w.cell? ⟨t, 6, none⟩ = some (.int .u64 ms) := cell_in h (by
  unfold turnCells
  rw [Array.getElem?_setIfInBounds_self_of_lt (by rw [Array.size_setIfInBounds, Array.size_setIfInBounds, turnCells_size]; omega)])
theorem Turn0.other {w : World} {t : Nat} {n id ms : Int} (h : Turn0 w t n id ms) (j : Nat) (v : Value) (hj : Tryz.zeroCells92[j]? = some v) (h4 : j ≠ 4) (h5 : j ≠ 5) (h6 : j ≠ 6) : w.cell? ⟨t, j, none⟩ = some v := cell_in h (turnCells_other n id ms j v hj h4 h5 h6)
theorem tc7 : Tryz.zeroCells92[7]? = some (.bool false) := by kernel_rfl
theorem tc8 : Tryz.zeroCells92[8]? = some (.int .u64 0) := by kernel_rfl
theorem tc211 : Tryz.zeroCells92[211]? = some (.bool false) := by kernel_rfl
theorem tc212 : Tryz.zeroCells92[212]? = some (.int .u64 0) := by kernel_rfl
theorem tc213 : Tryz.zeroCells92[213]? = some (.int .u64 0) := by kernel_rfl

def TurnNew (w : World) (n id ms : Int) (e : Ending) (w' : World) : Prop := ∃ t, e = .returned (.pointer (some ⟨t, 0, none⟩)) ∧ Turn0 w' t n id ms ∧ w.heap.size ≤ t ∧ Mod [] w w'

set_option maxRecDepth 100000 in
set_option maxHeartbeats 4000000 in
theorem turn_new (n : Nat) (id ms : Int) (w : World) (hn : n < 64) (hx : (bits .and .u64 ms (2 ^ n) != 0) = true) (hi : (id == 18446744073709551615) = false) :
    Calls Tryz.prog 5 #[.int .i64 n, .agg #[.int .u64 id, .int .u64 ms]] w (TurnNew w n id ms) := by
  go_enter Tryz.func5, Tryz.ntmps5
  go_wp2_with (go_at_call 20; refine (has_is ms n true hn hx _).mono ?_; rintro e w1 ⟨rfl, rfl⟩)
  go_ret
  refine ⟨w.heap.size + 1, rfl, ?_, by omega, ((Mod.refl [] _).alloc _).alloc _⟩
  have := heap_new (w.alloc (.cells #[.int .u64 id, .int .u64 ms] 25)) (.cells (turnCells n id ms) 92)
  rw [World.size_alloc] at this
  exact this

set_option maxHeartbeats 1000000 in
theorem turn_frozen (t : Nat) (n id ms : Int) (w : World) (h : Turn0 w t n id ms) :
    Calls Tryz.prog 267 #[.pointer (some ⟨t, 0, none⟩)] w fun e w' => e = .returned (.tuple #[.int .u64 0, .bool false]) ∧ Mod [] w w' := by
  have h7 := h.other 7 _ tc7 (by decide) (by decide) (by decide)
  have h8 := h.other 8 _ tc8 (by decide) (by decide) (by decide)
  clear h
  go_enter Tryz.func267, Tryz.ntmps267
  go_wp2_with fail
  go_region
  all_goals
    go_wp2
    refine bodyPost_ret (results_tmp2 rfl _ _ _) rfl ?_
    exact ⟨rfl, (Mod.refl _ _).drew⟩

theorem Tryz.size_choice : (Tryz.prog.info? 45).map (·.size) = some 2 := by kernel_rfl
set_option maxRecDepth 100000 in
set_option maxHeartbeats 2000000 in
theorem turn_decided (t : Nat) (n id ms : Int) (w : World) (h : Turn0 w t n id ms) :
    Calls Tryz.prog 10 #[.pointer (some ⟨t, 0, none⟩)] w fun e w' => e = .returned (.tuple #[.agg #[.int .u64 0, .int .u64 0], .bool false]) ∧ Mod [] w w' := by
  have h1 := h.other 211 _ tc211 (by decide) (by decide) (by decide)
  have h2 := h.other 212 _ tc212 (by decide) (by decide) (by decide)
  have h3 := h.other 213 _ tc213 (by decide) (by decide) (by decide)
  have hl := h.lt
  have hne : ¬ t = w.heap.size := by omega
  clear h
  go_enter Tryz.func10, Tryz.ntmps10
  go_wp2_with fail
  go_region
  all_goals
    go_wp2
    refine bodyPost_ret (results_row_tmp rfl _ _ w.heap.size 45 _ (0, 0) _ rfl (heap_new_drew _ _) Tryz.underlying45 rfl Tryz.size_choice) rfl ?_
    exact ⟨rfl, ((Mod.refl _ _).alloc _).drew⟩

end Go.Proofs.YtaaaiggbnkeblaaGreatDoor

namespace Go.Proofs.YtaaaiggbnkeblaaGreatDoor
set_option linter.unusedSimpArgs false
set_option linter.unusedVariables false
open Go.RowKit

set_option maxHeartbeats 1000000 in
theorem eindex_nil (f : Value) (w : World) : Calls Tryz.prog 108 #[.slice none 0 0, f] w fun e w' => e = .returned (.int .i64 (-1)) ∧ w = w' := by
  go_enter Tryz.func108, Tryz.ntmps108
  go_wp2_with fail
  refine wp_loop_rounds 1 ?_
  rw [rounds_succ]
  go_wp2
  go_ret
  exact ⟨rfl, rfl⟩

set_option maxHeartbeats 1000000 in
theorem edelete_nil (f : Value) (w : World) : Calls Tryz.prog 53 #[.slice none 0 0, f] w fun e w' => e = .returned (.slice none 0 0) ∧ w = w' := by
  go_enter Tryz.func53, Tryz.ntmps53
  go_wp2_with fail
  refine (eindex_nil f _).mono ?_
  rintro e w1 ⟨rfl, rfl⟩
  go_wp2
  go_ret
  exact ⟨rfl, rfl⟩

set_option maxRecDepth 100000 in
set_option maxHeartbeats 1000000 in
theorem len64_zero (w : World) : Calls Tryz.prog 251 #[.int .u64 0] w fun e w' => e = .returned (.int .i64 0) ∧ w = w' := by
  go_enter Tryz.func251, Tryz.ntmps251
  go_wp2_with fail
  go_ret
  exact ⟨ret_int (by kernel_rfl), rfl⟩

set_option maxHeartbeats 1000000 in
theorem len_zero (w : World) : Calls Tryz.prog 198 #[.int .u64 0] w fun e w' => e = .returned (.int .i64 0) ∧ w = w' := by
  go_enter Tryz.func198, Tryz.ntmps198
  go_wp2_with fail
  refine (len64_zero _).mono ?_
  rintro e w1 ⟨rfl, rfl⟩
  go_wp2_with fail
  go_ret
  exact ⟨rfl, rfl⟩

set_option maxHeartbeats 1000000 in
theorem iisort_nil (w : World) : Calls Tryz.prog 256 #[.slice none 0 0, .int .i64 0, .int .i64 0] w fun e w' => e = .returned (.tuple #[]) ∧ w = w' := by
  go_enter Tryz.func256, Tryz.ntmps256
  go_wp2_with fail
  refine wp_loop_rounds 1 ?_
  rw [rounds_succ]
  go_wp2_with fail
  refine bodyPost_end (results_none rfl _ _ _) rfl ?_
  exact ⟨rfl, rfl⟩

set_option maxRecDepth 100000 in
set_option maxHeartbeats 2000000 in
theorem ipdq_nil (n : Int) (w : World) : Calls Tryz.prog 206 #[.slice none 0 0, .int .i64 0, .int .i64 0, .int .i64 n] w fun e w' => e = .returned (.tuple #[]) ∧ w = w' := by
  go_enter Tryz.func206, Tryz.ntmps206
  go_wp2_with fail
  refine wp_loop_rounds 1 ?_
  rw [rounds_succ]
  go_wp2_with fail
  refine (iisort_nil _).mono ?_
  rintro e w1 ⟨rfl, rfl⟩
  go_wp2_with fail
  refine bodyPost_ret (results_none rfl _ _ _) rfl ?_
  exact ⟨rfl, rfl⟩

theorem isort_nil (w : World) : Calls Tryz.prog 149 #[.slice none 0 0] w fun e w' => e = .returned (.tuple #[]) ∧ w = w' := by
  go_enter Tryz.func149, Tryz.ntmps149
  go_wp2_with fail
  refine (len_zero _).mono ?_
  rintro e w1 ⟨rfl, rfl⟩
  go_wp2_with fail
  refine (ipdq_nil 0 _).mono ?_
  rintro e w1 ⟨rfl, rfl⟩
  go_wp2_with fail
  refine bodyPost_end (results_none rfl _ _ _) rfl ?_
  exact ⟨rfl, rfl⟩

theorem mrun_range_nil {P : Program} {t K E : TypeId} (ht : P.underlying t = some (.map K E)) (w : World) :
    (Instr.range t (.map none)).run P w = .ok (.pointer (some ⟨w.heap.size, 0, none⟩)) (w.alloc (.mapIter none 0 #[] 0)) := by
  simp [Instr.range, mrun_underlying ht, Sem.run_bind, Result.andThen, run_newObj_alloc]
theorem mrun_next_nil {P : Program} {w : World} {r c d : Nat} {s : Array Nat} {ty : TypeId} (hr : w.heap[r]? = some (.mapIter none c s d)) :
    (Instr.next (.pointer (some ⟨r, 0, none⟩)) false ty).run P w = .ok (.tuple #[.bool false]) w := by
  simp [Instr.next, Sem.run_bind, Result.andThen, mrun_getIter hr]

set_option maxRecDepth 100000 in
set_option maxHeartbeats 2000000 in
theorem dall_nil (d o : Nat) (w : World) (h : w.cell? ⟨d, o, none⟩ = some (.map none)) : Calls Tryz.prog 109 #[.pointer (some ⟨d, o, none⟩)] w fun e w' => e = .returned (.slice none 0 0) ∧ Mod [] w w' := by
  have hrg := fun w => mrun_range_nil (P := Tryz.prog) (t := 73) Tryz.underlying73 w
  have hnx := mrun_next_nil (P := Tryz.prog) (ty := 0) (heap_new w (.mapIter none 0 #[] 0))
  go_enter Tryz.func109, Tryz.ntmps109
  go_wp2_with fail
  refine wp_loop_rounds 1 ?_
  rw [rounds_succ]
  go_wp2_with fail
  refine (isort_nil _).mono ?_
  rintro e w1 ⟨rfl, rfl⟩
  go_wp2_with fail
  refine wp_loop_rounds 1 ?_
  rw [rounds_succ]
  go_wp2
  go_ret
  exact ⟨rfl, (Mod.refl _ _).alloc _⟩

set_option maxHeartbeats 2000000 in
theorem dover_nil (d o : Nat) (now : Int) (w : World) (h : w.cell? ⟨d, o, none⟩ = some (.map none)) : Calls Tryz.prog 55 #[.pointer (some ⟨d, o, none⟩), .int .u64 now] w fun e w' => e = .returned (.slice none 0 0) ∧ Mod [] w w' := by
  go_enter Tryz.func55, Tryz.ntmps55
  go_wp2_with fail
  refine (dall_nil d o _ h).mono ?_
  rintro e w1 ⟨rfl, hM⟩
  have HM := Lib.hid hM
  clear hM
  go_wp2_with fail
  refine wp_loop_rounds 1 ?_
  rw [rounds_succ]
  go_wp2
  go_ret
  exact ⟨rfl, HM.out⟩

set_option maxHeartbeats 2000000 in
theorem rnext_nil (p l : Value) (a : Option Addr) (c : Nat) (w : World) : Calls Tryz.prog 56 #[p, .slice a 0 c, l] w fun e w' => e = .returned (.tuple #[.int .i64 0, .bool false]) ∧ Mod [] w w' := by
  go_enter Tryz.func56, Tryz.ntmps56
  go_wp2
  refine bodyPost_ret (results_tmp2 rfl _ _ _) rfl ?_
  exact ⟨rfl, (Mod.refl _ _).alloc _⟩

end Go.Proofs.YtaaaiggbnkeblaaGreatDoor

namespace Go.Proofs.YtaaaiggbnkeblaaGreatDoor
set_option linter.unusedSimpArgs false
set_option linter.unusedVariables false
open Go.RowKit

theorem results_int {P : Program} {fn : Func} {p : Tmp} {ty : TypeId} {k : IntKind} (h : fn.results = #[.cell p ty]) (tmps : Array Value) (w : World) (a : Addr) (v : Value) (hp : tmps.getD p undef = .pointer (some a)) (hu : P.underlying ty = some (.int k)) (hc : w.cell? a = some v) : (results fn tmps).run P w = .ok v w := by
  have hp' : tmps[p]?.getD undef = .pointer (some a) := by simpa using hp
  have hr : Sem.run P (underlying ty) w = .ok (.int k) w := by simp [underlying, hu]
  simp [results, h, hp', asAddr, loadVar, isAgg, hr, hc, go_sem]

theorem stable1 (n : Int) (a : Value) (w : World) :
    Calls Tryz.prog 278 #[.int .u64 n, .bool true, a] w fun e w' => e = .returned (.int .u64 n) ∧ w' = w := by
  go_enter Tryz.func278, Tryz.ntmps278
  go_wp2
  go_ret
  exact ⟨rfl, rfl⟩

set_option maxRecDepth 100000 in
set_option maxHeartbeats 4000000 in
theorem stable_one (b n c : Nat) (x : Int) (w : World) (ht : Tab w) (hb : w.heap[b]? = some (.map #[{ key := .int .i64 0, val := .int .u64 x, born := n }] c)) :
    Calls Tryz.prog 225 #[.int .u64 1, .map (some b)] w fun e w' => e = .returned (.int .u64 x) ∧ Mod [] w w' := by
  have hmf : ∀ fn first cap w, (Instr.makeFunc fn first cap).run Tryz.prog w = .ok (.func fn first cap) w := fun _ _ _ _ => rfl
  have HT := Lib.hid ht
  have HB := Lib.hid hb
  clear ht hb
  go_enter Tryz.func225, Tryz.ntmps225
  go_wp2_with fail
  refine (blist_is 1 [0] bits_one (by decide) _ (HT.out.mod ((Mod.refl [] _).alloc _) (by simp))).mono ?_
  rintro e w1 ⟨v, rfl, hO, hM⟩
  obtain ⟨a, cc, rfl, hr, hnc, _⟩ := hO.shape
  obtain ⟨ad, rfl, hlt, hc⟩ := hr (by simp)
  have c0 := hc 0 0 rfl
  simp only [Addr.add, if_true] at c0
  have hm1 : w1.heap[b]? = some (.map #[{ key := .int .i64 0, val := .int .u64 x, born := n }] c) := row_keep (((Mod.refl [] w).alloc _).trans hM) HB.out
  have hrow : w1.heap[w.heap.size]? = some (.cells #[.int .u64 0] 23 (0, 0)) := row_keep hM (heap_new w _)
  have g0 : w1.cell? ⟨w.heap.size, 0, none⟩ = some (.int .u64 0) := cell_in hrow rfl
  have g1 : w1.frozen? ⟨w.heap.size, 0, none⟩ = false := free_in hrow
  have hlk := mrun_look_one (P := Tryz.prog) (t := 231) Tryz.underlying231 Tryz.underlying3 hm1
  have HM := Lib.hid (((Mod.refl [] w).alloc (.cells #[.int .u64 0] 23)).trans hM)
  clear hO hr hnc hc hM hm1 hrow
  go_wp2_with fail
  refine wp_loop_rounds 2 ?_
  rw [rounds_succ]
  go_wp2_with fail
  refine (stable1 x _ _).mono ?_
  rintro e w2 ⟨rfl, rfl⟩
  go_wp2_with fail
  rw [rounds_succ]
  go_wp2
  refine bodyPost_ret (results_int rfl _ _ _ _ rfl Tryz.underlying23 (cell_set_same (cell_set_same g0))) rfl ?_
  exact ⟨rfl, (HM.out.setCell (.inr (by simp)) _).setCell (.inr (by simp)) _⟩

end Go.Proofs.YtaaaiggbnkeblaaGreatDoor
