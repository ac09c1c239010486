/-
  The walks of package lot: New, Next, Left, Below.
-/
import Derived.Test.YtpbamamplmbgjaaGreatDoorBase
namespace Go.Proofs.YtpbamamplmbgjaaGreatDoor
set_option linter.unusedSimpArgs false
set_option linter.unusedVariables false
open Go.RowKit

/-- A Lots at block d, whose list's array is block g. -/
def LotsAt (w : World) (d g : Nat) (xs : List Int) : Prop :=
  ∃ a c off, w.cell? ⟨d, 0, none⟩ = some (.slice a xs.length c) ∧ w.frozen? ⟨d, 0, none⟩ = false ∧ d ≠ g ∧ (xs ≠ [] → a = some ⟨g, off, none⟩) ∧
    (∀ j x, xs[j]? = some x → w.cell? ⟨g, off + j, none⟩ = some (.int .u64 x)) ∧ (∀ x ∈ xs, 0 ≤ x ∧ x ≤ 18446744073709551615) ∧ xs.length ≤ c ∧ c ≤ maxLen ∧ g < w.heap.size

theorem LotsAt.same {w w' : World} {d g : Nat} {xs : List Int} (h : LotsAt w d g xs) (hd : w'.heap[d]? = w.heap[d]?) (hg : w'.heap[g]? = w.heap[g]?) : LotsAt w' d g xs := by
  obtain ⟨a, c, off, h1, h2, h3, h4, h5, h6, h7, h8, h9⟩ := h
  refine ⟨a, c, off, ?_, ?_, h3, h4, fun j x hj => ?_, h6, h7, h8, ?_⟩
  · rw [World.cell?_of_block (w := w) hd]; exact h1
  · rw [World.frozen?_of_block (w := w) hd]; exact h2
  · rw [World.cell?_of_block (w := w) hg]; exact h5 j x hj
  · rw [Array.getElem?_eq_getElem h9] at hg
    exact (Array.getElem?_eq_some_iff.1 hg).1

theorem lots_pop {w : World} {d g : Nat} {x : Int} {xs : List Int} {v : Value} {a : Option Addr} {off c : Nat} (h1 : w.cell? ⟨d, 0, none⟩ = some v) (h2 : w.frozen? ⟨d, 0, none⟩ = false) (h3 : d ≠ g)
    (h4 : xs ≠ [] → a = some ⟨g, off + 1, none⟩) (h5 : ∀ j y, (x :: xs)[j]? = some y → w.cell? ⟨g, off + j, none⟩ = some (.int .u64 y)) (h6 : ∀ y ∈ xs, 0 ≤ y ∧ y ≤ 18446744073709551615) (h7 : xs.length ≤ c) (h8 : c ≤ maxLen) (h9 : g < w.heap.size) :
    LotsAt (w.setCell ⟨d, 0, none⟩ (.slice a xs.length c)).drew d g xs := by
  refine ⟨a, c, off + 1, cell_set_same h1, by simpa using h2, h3, h4, fun j y hj => ?_, h6, h7, h8, by simpa [World.setCell] using h9⟩
  rw [World.cell?_drew, cell_set_far _ _ _ _ h3, Nat.add_assoc, Nat.add_comm 1 j]
  exact h5 (j + 1) y hj

theorem LotsAt.lt {w : World} {d g : Nat} {xs : List Int} (h : LotsAt w d g xs) : d < w.heap.size ∧ g < w.heap.size := by
  obtain ⟨a, c, off, h1, h2, h3, h4, h5, h6, h7, h8, h9⟩ := h
  refine ⟨?_, h9⟩
  unfold World.cell? at h1
  rcases Nat.lt_or_ge d w.heap.size with h | h
  · exact h
  · rw [Array.getElem?_eq_none h] at h1
    cases h1

theorem LotsAt.mod {w w' : World} {d g : Nat} {xs : List Int} {S : List Nat} (h : LotsAt w d g xs) (hm : Mod S w w') (hd : d ∉ S) (hg : g ∉ S) : LotsAt w' d g xs :=
  h.same (hm.block d h.lt.1 hd) (hm.block g h.lt.2 hg)

set_option maxHeartbeats 400000 in
theorem next_nil (d g : Nat) (w : World) (h : LotsAt w d g []) :
    Calls Tryz.prog 238 #[.pointer (some ⟨d, 0, none⟩)] w fun e w' => e = .returned (.int .u64 0) ∧ w = w' := by
  obtain ⟨a, c, off, h1, h2, h3, h4, h5, h6, h7, h8, h9⟩ := h
  clear h2 h4 h5 h6 h7 h8 h9
  go_enter Tryz.func238, Tryz.ntmps238
  go_wp2
  go_ret
  exact ⟨rfl, rfl⟩

set_option maxHeartbeats 1000000 in
theorem next_cons (d g : Nat) (x : Int) (xs : List Int) (w : World) (h : LotsAt w d g (x :: xs)) :
    Calls Tryz.prog 238 #[.pointer (some ⟨d, 0, none⟩)] w fun e w' => e = .returned (.int .u64 x) ∧ LotsAt w' d g xs ∧ Mod [d] w w' := by
  obtain ⟨a, c, off, h1, h2, h3, h4, h5, h6, h7, h8, h9⟩ := h
  have hc0 := h5 0 x rfl
  obtain rfl := h4 (by simp)
  have hl : (x :: xs).length = xs.length + 1 := rfl
  rw [hl] at h1 h7
  have hcell := h1
  have h6 := fun y hy => h6 y (List.mem_cons_of_mem _ hy)
  unfold maxLen at h8
  have H5 := Lib.hid h5
  clear h4 h5 hl
  simp only [Nat.add_zero] at hc0
  go_enter Tryz.func238, Tryz.ntmps238
  go_wp2
  go_region
  all_goals go_wp2
  all_goals go_ret
  · refine ⟨rfl, lots_pop hcell h2 h3 (fun hx => ?_) H5.out h6 (by omega) (by unfold maxLen; omega) h9, ((Mod.refl _ _).setCell (by simp) _).drew⟩
    cases xs with
    | nil => exact absurd rfl hx
    | cons y ys => simp at h7; omega
  · exact ⟨rfl, lots_pop hcell h2 h3 (fun _ => rfl) H5.out h6 (by omega) (by unfold maxLen; omega) h9, ((Mod.refl _ _).setCell (by simp) _).drew⟩

theorem next_any (d g : Nat) (xs : List Int) (w : World) (h : LotsAt w d g xs) :
    Calls Tryz.prog 238 #[.pointer (some ⟨d, 0, none⟩)] w fun e w' => e = .returned (.int .u64 (xs.headD 0)) ∧ LotsAt w' d g xs.tail ∧ Mod [d] w w' := by
  cases xs with
  | nil => exact (next_nil d g w h).mono fun e w' ⟨he, hw⟩ => ⟨he, hw ▸ h, hw ▸ Mod.refl _ _⟩
  | cons x xs => exact next_cons d g x xs w h

theorem next_is (d g : Nat) (xs : List Int) (y : Int) (w : World) (h : LotsAt w d g xs) (hy : xs.headD 0 = y) :
    Calls Tryz.prog 238 #[.pointer (some ⟨d, 0, none⟩)] w fun e w' => e = .returned (.int .u64 y) ∧ LotsAt w' d g xs.tail ∧ Mod [d] w w' :=
  hy ▸ next_any d g xs w h

def lotBelow (xs : List Int) (n : Int) : Int := if n < 2 then 0 else xs.headD 0 % n
def lotRest (xs : List Int) (n : Int) : List Int := if n < 2 then xs else xs.tail

theorem lots_range {w : World} {d g : Nat} {xs : List Int} (h : LotsAt w d g xs) : 0 ≤ xs.headD 0 ∧ xs.headD 0 ≤ 18446744073709551615 := by
  obtain ⟨a, c, off, h1, h2, h3, h4, h5, h6, h7, h8, h9⟩ := h
  cases xs with
  | nil => simp
  | cons x xs => exact h6 x (by simp)

set_option maxHeartbeats 400000 in
theorem below_small (p : Value) (n : Int) (w : World) (hn : n < 2) :
    Calls Tryz.prog 169 #[p, .int .i64 n] w fun e w' => e = .returned (.int .i64 0) ∧ w = w' := by
  go_enter Tryz.func169, Tryz.ntmps169
  go_wp2
  go_ret
  exact ⟨rfl, rfl⟩

set_option maxHeartbeats 400000 in
theorem below_big (d g : Nat) (xs : List Int) (n : Int) (w : World) (h : LotsAt w d g xs) (hn : 2 ≤ n) (hn2 : n ≤ 9223372036854775807) :
    Calls Tryz.prog 169 #[.pointer (some ⟨d, 0, none⟩), .int .i64 n] w fun e w' => e = .returned (.int .i64 (xs.headD 0 % n)) ∧ LotsAt w' d g xs.tail ∧ Mod [d] w w' := by
  obtain ⟨r1, r2⟩ := lots_range h
  have H := Lib.hid h
  clear h
  generalize hy : xs.headD 0 = y at *
  have HY := Lib.hid hy
  clear hy
  go_enter Tryz.func169, Tryz.ntmps169
  go_wp2_with (go_at_call 238; refine (next_is d g xs y _ H.out HY.out).mono ?_; rintro e w1 ⟨rfl, hL, hM⟩)
  go_ret
  refine ⟨ret_int (wrap_small (Int.emod_nonneg _ (by omega)) ?_), hL, hM⟩
  have := Int.emod_lt_of_pos y (show 0 < n by omega)
  omega

theorem below_any (d g : Nat) (xs : List Int) (n : Int) (w : World) (h : LotsAt w d g xs) (hn2 : n ≤ 9223372036854775807) :
    Calls Tryz.prog 169 #[.pointer (some ⟨d, 0, none⟩), .int .i64 n] w fun e w' => e = .returned (.int .i64 (lotBelow xs n)) ∧ LotsAt w' d g (lotRest xs n) ∧ Mod [d] w w' := by
  unfold lotBelow lotRest
  by_cases hn : n < 2
  · rw [if_pos hn, if_pos hn]
    exact (below_small _ n w hn).mono fun e w' ⟨he, hw⟩ => ⟨he, hw ▸ h, hw ▸ Mod.refl _ _⟩
  · rw [if_neg hn, if_neg hn]
    exact below_big d g xs n w h (by omega) hn2

theorem Tryz.info_u64 : (Tryz.prog.info? 22).map (fun i => (i.zero, i.size, i.bytes)) = some (some (.int .u64 0), 1, 8) := by kernel_rfl
theorem Tryz.info_int : (Tryz.prog.info? 3).map (fun i => (i.zero, i.size, i.bytes)) = some (some (.int .i64 0), 1, 8) := by kernel_rfl

theorem Tryz.size_u64 : (Tryz.prog.info? 22).map (·.size) = some 1 := by kernel_rfl
theorem Tryz.size_int : (Tryz.prog.info? 3).map (·.size) = some 1 := by kernel_rfl

/-- What New answers. -/
def NewPost (w : World) (xs : List Int) (e : Ending) (w' : World) : Prop :=
  ∃ d g, e = .returned (.pointer (some ⟨d, 0, none⟩)) ∧ w.heap.size ≤ d ∧ w.heap.size ≤ g ∧ LotsAt w' d g xs ∧ Mod [] w w'

theorem new_end {xs : List Int} {w w1 : World} {o : Obj} {t : TypeId} (hx : ∀ x ∈ xs, 0 ≤ x ∧ x ≤ 18446744073709551615) (hlen : xs.length * 8 ≤ 140737488351232)
    (hrow : w1.heap[w.heap.size]? = some (.cells (xs.map (Value.int .u64)).toArray t (0, 0)))
    (hgr : ((w.alloc o).alloc (.cells #[.slice (some ⟨w.heap.size, 0, none⟩) xs.length xs.length] 167)).grownBy w1 (some w.heap.size)) : NewPost w xs (.returned (.pointer (some ⟨w.heap.size + 1, 0, none⟩))) w1 := by
  have hd : w1.heap[w.heap.size + 1]? = some (.cells #[.slice (some ⟨w.heap.size, 0, none⟩) xs.length xs.length] 167 (0, 0)) := by
    rw [hgr.block _ (by simp) (by simp)]
    exact heap_top _ _ _
  refine ⟨w.heap.size + 1, w.heap.size, rfl, by omega, by omega, ⟨some ⟨w.heap.size, 0, none⟩, xs.length, 0, ?_, ?_, by omega, fun _ => rfl, fun j x hj => ?_, hx, by omega, by unfold maxLen; omega, (Array.getElem?_eq_some_iff.1 hrow).1⟩, ?_⟩
  · simp [World.cell?, hd]
  · simp [World.frozen?, hd]
  · simp [World.cell?, hrow, hj]
  · exact (((Mod.refl [] w).alloc _).alloc _).grown hgr (.inr (Nat.le_refl _))

set_option maxHeartbeats 1000000 in
theorem new_any (a : Option Addr) (c : Nat) (xs : List Int) (w : World) (hr : RdInts .u64 w a xs) (hlen : xs.length * 8 ≤ 140737488351232) (hx : ∀ x ∈ xs, 0 ≤ x ∧ x ≤ 18446744073709551615) :
    Calls Tryz.prog 25 #[.slice a xs.length c] w (NewPost w xs) := by
  have hmk := run_make_row' (P := Tryz.prog) 77 22 (.int .u64 0) 8 Tryz.underlying77 Tryz.info_u64 rfl .i64 .i64 xs.length (by omega) (by omega)
  have HX := Lib.hid hx
  have HR := Lib.hid hr
  have HL := Lib.hid hlen
  clear hx hr hlen
  go_enter Tryz.func25, Tryz.ntmps25
  go_wp2_with (with_reducible refine wpList_copy_full rfl (.tmp 12) (.tmp 13) 77 77 rfl 22 Tryz.underlying77 Tryz.size_u64 .u64 xs w.heap.size xs.length c a rfl rfl (madeCells #[.int .u64 0] xs.length) 22 ?hg ?hcur ?hsrc ?next)
  case hg => exact heap_two _ _ _
  case hcur => simp [madeCells]
  case hsrc => exact (HR.out.alloc _).alloc _
  case next =>
    intro w1 hrow hgr hsz
    have HROW := Lib.hid hrow
    clear hrow
    go_wp2
    go_ret
    exact new_end HX.out HL.out HROW.out hgr

end Go.Proofs.YtpbamamplmbgjaaGreatDoor
