/-
  The walks of package detect at a detector that knows itself alone: New, take and Know of itself.
-/
import Derived.Test.YtpbamamplmbgjaaGreatDoorTopE
import Derived.Deep.DeepCutAuto
namespace Go.Proofs.YtpbamamplmbgjaaGreatDoor
set_option linter.unusedSimpArgs false
set_option linter.unusedVariables false
open Go.RowKit

theorem Mod.cells {a b : World} (h : Mod [] a b) : ∀ k j s, k < a.heap.size → b.cell? ⟨k, j, s⟩ = a.cell? ⟨k, j, s⟩ := fun k j s hk => h.cell (p := ⟨k, j, s⟩) hk (by simp)
theorem Mod.frees {a b : World} (h : Mod [] a b) : ∀ k j s, k < a.heap.size → b.frozen? ⟨k, j, s⟩ = a.frozen? ⟨k, j, s⟩ := fun k j s hk => h.frozen (p := ⟨k, j, s⟩) hk (by simp)

theorem row_keep {a b : World} (h : Mod [] a b) {g : Nat} {o : Obj} (hg : a.heap[g]? = some o) : b.heap[g]? = some o := (h.block g (Array.getElem?_eq_some_iff.1 hg).1 (by simp)).trans hg
theorem heap_new_drew (w : World) (o : Obj) : ((w.alloc o).drew).heap[w.heap.size]? = some o := heap_new w o
/-- Three cells of an update's block that a call made. -/
def Zeros (w : World) (g : Nat) : Prop := (w.cell? ⟨g, 0, none⟩ = some (.int .i64 0) ∧ w.cell? ⟨g, 1, none⟩ = some (.int .u64 0) ∧ w.cell? ⟨g, 2, none⟩ = some (.int .i64 0)) ∧ w.frozen? ⟨g, 0, none⟩ = false ∧ w.frozen? ⟨g, 1, none⟩ = false ∧ w.frozen? ⟨g, 2, none⟩ = false
theorem zeros_of {w : World} {g : Nat} (h : w.heap[g]? = some (.cells #[.int .i64 0, .int .u64 0, .int .i64 0] 24 (0, 0))) : Zeros w g :=
  ⟨⟨cell_in h rfl, cell_in h rfl, cell_in h rfl⟩, free_in h, free_in h, free_in h⟩

theorem set_same_cells {w : World} {a : Addr} {v : Value} (h : w.cell? a = some v) (b : Addr) : (w.setCell a v).cell? b = w.cell? b := by
  by_cases e : b = a
  · subst e; rw [cell_set_same h, h]
  · exact World.cell?_setCell_other _ _ _ _ (fun h => e h.symm)
theorem Zeros.mod {a b : World} {g : Nat} (h : Zeros a g) (m : Mod [] a b) : Zeros b g :=
  have hl : g < a.heap.size := block_lt_of_cell h.1.1
  ⟨⟨m.at h.1.1 (by simp), m.at h.1.2.1 (by simp), m.at h.1.2.2 (by simp)⟩, (m.frozen hl (by simp)).trans h.2.1, (m.frozen hl (by simp)).trans h.2.2.1, (m.frozen hl (by simp)).trans h.2.2.2⟩
theorem zeros_set {w : World} {g : Nat} (h : Zeros w g) : Zeros (((w.setCell ⟨g, 0, none⟩ (.int .i64 0)).setCell ⟨g, 1, none⟩ (.int .u64 0)).setCell ⟨g, 2, none⟩ (.int .i64 0)) g := by
  obtain ⟨⟨a, b, c⟩, f⟩ := h
  have e1 := set_same_cells a
  have b1 := (e1 ⟨g, 1, none⟩).trans b
  have e2 := set_same_cells b1
  have c2 := (e2 ⟨g, 2, none⟩).trans ((e1 _).trans c)
  have e3 := set_same_cells c2
  refine ⟨⟨(e3 _).trans ((e2 _).trans ((e1 _).trans a)), (e3 _).trans ((e2 _).trans b1), (e3 _).trans c2⟩, ?_⟩
  simpa only [World.frozen?_setCell] using f

/-- A detector of node 0 at block d, its roll at r; seq, now. -/
structure DetAt (w : World) (d r : Nat) (now : Int) : Prop where
  roll : w.cell? ⟨d, 0, none⟩ = some (.pointer (some ⟨r, 0, none⟩))
  left : w.cell? ⟨d, 1, none⟩ = some (.slice none 0 0)
  me : w.cell? ⟨d, 2, none⟩ = some (.int .i64 0)
  doubts : w.cell? ⟨d, 4, none⟩ = some (.map none)
  watches : w.cell? ⟨d, 5, none⟩ = some (.slice none 0 0)
  errands : w.cell? ⟨d, 6, none⟩ = some (.slice none 0 0)
  now : w.cell? ⟨d, 8, none⟩ = some (.int .u64 now)
  gone : w.cell? ⟨d, 9, none⟩ = some (.bool false)
  free : ∀ j, w.frozen? ⟨d, j, none⟩ = false
  roll0 : Roll0 w r

theorem DetAt.lt {w : World} {d r : Nat} {now : Int} (h : DetAt w d r now) : d < w.heap.size := block_lt_of_cell h.roll
theorem DetAt.mod {S : List Nat} {w w' : World} {d r : Nat} {now : Int} (h : DetAt w d r now) (hm : Mod S w w') (hd : d ∉ S) (hr : r ∉ S) : DetAt w' d r now :=
  ⟨hm.at h.roll hd, hm.at h.left hd, hm.at h.me hd, hm.at h.doubts hd, hm.at h.watches hd, hm.at h.errands hd, hm.at h.now hd, hm.at h.gone hd, fun j => (hm.frozen (by exact h.lt) hd).trans (h.free j), h.roll0.mod hm hr⟩

def U0 : Value := .agg #[.int .i64 0, .int .u64 0, .int .i64 0]

theorem mine0 (r : Nat) (w : World) (h : Roll0 w r) : Calls Tryz.prog 43 #[.pointer (some ⟨r, 0, none⟩)] w fun e w' => e = .returned (.agg #[.int .i64 0, .int .u64 0, .int .i64 0]) ∧ Mod [] w w' :=
  mine_any r 0 (by decide) _ 1 w h
theorem get0 (r : Nat) (w : World) (h : Roll0 w r) : Calls Tryz.prog 13 #[.pointer (some ⟨r, 0, none⟩), .int .i64 0] w fun e w' => e = .returned (.tuple #[.agg #[.int .i64 0, .int .u64 0, .int .i64 0], .bool true]) ∧ Mod [] w w' :=
  get_has r 0 (by decide) 0 1 _ w h has_zero
theorem hear0 (r : Nat) (w : World) (h : Roll0 w r) : Calls Tryz.prog 10 #[.pointer (some ⟨r, 0, none⟩), .agg #[.int .i64 0, .int .u64 0, .int .i64 0]] w fun e w' => e = .returned (.tuple #[.bool false, .int .i64 70]) ∧ Mod [] w w' :=
  hear_own_old r 0 (by decide) _ 1 0 0 (by decide) w h (by decide)
theorem qput0 (q o : Nat) (w : World) (hq : w.cell? ⟨q, o, none⟩ = some (.map none)) (hf : w.frozen? ⟨q, o, none⟩ = false) :
    Calls Tryz.prog 11 #[.pointer (some ⟨q, o, none⟩), .agg #[.int .i64 0, .int .u64 0, .int .i64 0]] w fun e w' => e = .returned (.int .i64 0) ∧ (∀ j, j ≠ o → w'.cell? ⟨q, j, none⟩ = w.cell? ⟨q, j, none⟩) ∧ (∀ j, w'.frozen? ⟨q, j, none⟩ = w.frozen? ⟨q, j, none⟩) ∧ Mod [q] w w' :=
  (qput_none q o (0, 0, 0) (by decide) (by decide) w hq hf).mono fun e w' h => ⟨h.1, h.2.2.1, h.2.2.2.1, h.2.2.2.2⟩

def DetNew (w : World) (e : Ending) (w' : World) : Prop := ∃ d r, e = .returned (.pointer (some ⟨d, 0, none⟩)) ∧ DetAt w' d r 0 ∧ w.heap.size ≤ d ∧ w.heap.size ≤ r ∧ d ≠ r ∧ Mod [] w w'

set_option maxRecDepth 100000 in
set_option maxHeartbeats 4000000 in
theorem det_new (w : World) : Calls Tryz.prog 23 #[.int .i64 0] w (DetNew w) := by
  have hpn : ∀ (a : Addr) (w : World), (binOp .eql 29 (.pointer (some a)) (.pointer none)).run Tryz.prog w = .ok (.bool false) w := fun a w => by kernel_rfl
  go_enter Tryz.func23, Tryz.ntmps23
  go_wp2_with fail
  refine (roll_new 0 (by decide) _).mono ?_
  rintro e w1 ⟨rfl, hR, hM⟩
  have HR := Lib.hid (show Roll0 w1 w.heap.size from hR)
  have HM := Lib.hid hM
  clear hR hM
  go_wp2_with fail
  obtain ⟨d, hd⟩ : ∃ d, w1.heap.size = d := ⟨_, rfl⟩
  obtain ⟨r, hr⟩ : ∃ r, w.heap.size = r := ⟨_, rfl⟩
  obtain ⟨W, hW⟩ : ∃ W, w1.alloc (.cells #[.pointer (some ⟨r, 0, none⟩), .slice none 0 0, .int .i64 0, .map none, .map none, .slice none 0 0, .slice none 0 0, .int .u64 0, .int .u64 0, .bool false] 98) = W := ⟨_, rfl⟩
  have hh : W.heap[d]? = some (.cells #[.pointer (some ⟨r, 0, none⟩), .slice none 0 0, .int .i64 0, .map none, .map none, .slice none 0 0, .slice none 0 0, .int .u64 0, .int .u64 0, .bool false] 98 (0, 0)) := by rw [← hW, ← hd]; exact heap_new _ _
  have hrd : r < d := by rw [← hd, ← hr]; exact HR.out.lt
  have hRW : Roll0 W r := by rw [← hW, ← hr]; exact HR.out.mod ((Mod.refl [] _).alloc _) (by simp)
  have hMW : Mod [] w W := by rw [← hW]; exact HM.out.alloc _
  have hq := cell_in hh (j := 3) rfl
  have hqf := free_in (j := 3) hh
  have H := Lib.hid (And.intro hh (And.intro hRW hMW))
  have HRD := Lib.hid (And.intro hrd hr)
  try rw [hr]
  try rw [hd]
  try rw [hW]
  clear hr hd hW hh hRW hMW hrd HR HM hpn
  go_region_with (first | (go_at_call 43; refine (mine0 r _ (H.out.2.1.mod (Mod.refl [] _).drew (by simp))).mono ?_; rintro e w2 ⟨rfl, hM2⟩; have HM2 := Lib.hid ((Mod.refl [] _).drew.trans hM2); clear hM2) | (go_at_call 11; refine (qput0 d 3 _ (HM2.out.at hq (by simp)) ((HM2.out.frozen (block_lt_of_cell hq) (by simp)).trans hqf)).mono ?_; rintro e w3 ⟨rfl, hoth, hfr, hM3⟩; have H3 := Lib.hid (And.intro hoth (And.intro hfr hM3)); clear hoth hfr hM3))
  go_wp2
  go_ret
  obtain ⟨hh, hRW, hMW⟩ := H.out
  obtain ⟨hoth, hfr, hM3⟩ := H3.out
  have hdl : d < W.heap.size := (Array.getElem?_eq_some_iff.1 hh).1
  have hc : ∀ j v, j ≠ 3 → (#[Value.pointer (some ⟨r, 0, none⟩), .slice none 0 0, .int .i64 0, .map none, .map none, .slice none 0 0, .slice none 0 0, .int .u64 0, .int .u64 0, .bool false] : Array Value)[j]? = some v → w3.cell? ⟨d, j, none⟩ = some v := fun j v hj hv =>
    (hoth j hj).trans (HM2.out.at (cell_in hh hv) (by simp))
  have hws : w.heap.size = r := HRD.out.2
  refine ⟨d, r, rfl, ⟨hc 0 _ (by decide) rfl, hc 1 _ (by decide) rfl, hc 2 _ (by decide) rfl, hc 4 _ (by decide) rfl, hc 5 _ (by decide) rfl, hc 6 _ (by decide) rfl, hc 8 _ (by decide) rfl, hc 9 _ (by decide) rfl, fun j => (hfr j).trans ((HM2.out.frozen (by exact hdl) (by simp)).trans (free_in hh)), (hRW.mod HM2.out (by simp)).mod hM3 (by have := HRD.out.1; simp; omega)⟩, ?_, ?_, ?_, ?_⟩
  · have := HRD.out.1; omega
  · omega
  · have := HRD.out.1; omega
  · have := HRD.out.1
    exact (hMW.trans HM2.out).step hM3 (fun t ht => .inr (by simp at ht; omega))

end Go.Proofs.YtpbamamplmbgjaaGreatDoor
