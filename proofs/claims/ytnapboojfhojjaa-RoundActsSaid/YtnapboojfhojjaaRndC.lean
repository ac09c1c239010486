/-
  The walks of round.Left and of conventiclelaw09.shown.
-/
import Derived.Test.YtnapboojfhojjaaRndA
namespace Go.Proofs.Ytnapboojfhojjaa
open Go.RowKit

theorem RoundAt.empty (G : List Nat) (w : World) (t : TypeId) : RoundAt G (w.alloc (.cells #[.slice none 0 0] t)) w.heap.size [] :=
  ⟨none, 0, cell_in (heap_new _ _) rfl, free_in (heap_new _ _), Nat.le_refl _, by simp, fun _ => rfl, by simp, fun h => absurd rfl h⟩

theorem RoundAt.rd {G : List Nat} {w : World} {r : Nat} {L : List Int} (h : RoundAt G w r L) : ∃ a c, w.cell? ⟨r, 0, none⟩ = some (.slice a L.length c) ∧ RdInts .i64 w a L := by
  obtain ⟨ra, rc, q1, q2, q3, q4, q5, q6, q7⟩ := h
  refine ⟨ra, rc, q1, fun h0 => ?_⟩
  obtain ⟨g, off, rfl, _, hlt, hc⟩ := q7 h0
  exact ⟨_, rfl, hlt, fun j x hj => by rw [add_lit]; exact hc j x hj⟩

def LeftPost (w : World) (L : List Int) (e : Ending) (w' : World) : Prop :=
  ∃ g', e = .returned (.slice (some ⟨g', 0, none⟩) L.length L.length) ∧ w.heap.size ≤ g' ∧ OwnInts w' g' L ∧ Mod [] w w'

set_option maxHeartbeats 1000000 in
theorem rleft_any (G : List Nat) (r : Nat) (L : List Int) (w : World) (h : RoundAt G w r L) (hl : L.length ≤ 1000000) :
    Calls Try.prog 16 #[.pointer (some ⟨r, 0, none⟩)] w (LeftPost w L) := by
  obtain ⟨a, c, h1, hr⟩ := h.rd
  have hmk := run_make_row' (P := Try.prog) 26 3 (.int .i64 0) 8 Try.underlying26 Try.info_int rfl .i64 .i64 L.length (by omega) (by omega)
  have hrl := block_lt_of_cell h1
  have HR := Lib.hid hr
  clear hr h
  go_enter Try.func16, Try.ntmps16
  go_wp2_with (with_reducible refine wpList_copy_full rfl (.tmp 10) (.tmp 14) 26 26 rfl 3 Try.underlying26 Try.size_int .i64 L w.heap.size L.length c a rfl rfl (madeCells #[.int .i64 0] L.length) 3 ?hg ?hcur ?hsrc ?next)
  case hg => first | exact heap_new _ _ | exact (Array.getElem?_eq_some_iff.1 (heap_new _ _)).2
  case hcur => simp [madeCells]
  case hsrc => exact HR.out.alloc _
  case next =>
    intro w1 hrow hgr hsz
    have HROW := Lib.hid hrow
    have HGR := Lib.hid hgr
    clear hrow hgr
    go_wp2
    go_ret
    exact ⟨w.heap.size, rfl, Nat.le_refl _, HROW.out, ((Mod.refl [] w).alloc _).grown HGR.out (.inr (Nat.le_refl _))⟩

theorem shown_next : rNext [] [1, 2, 3] [0, 0] = (2, [3, 1], []) := by decide

set_option maxHeartbeats 4000000 in
theorem shown09 (w : World) : Calls Try.prog 4 #[] w (TruePost w) := by
  go_enter Try.func4, Try.ntmps4
  go_wp2_with fail
  refine (new_any _ 2 [0, 0] _ (fun _ => ⟨_, rfl, by simp, fun j x hj => ?_⟩) (by decide) (by decide)).mono ?_
  · rw [add_lit, Nat.zero_add]
    refine cell_in (heap_top _ _ _) ?_
    match j, hj with
    | 0, hj => simpa using hj
    | 1, hj => simpa using hj
  rintro e w1 ⟨d, g, rfl, hd, hg, hL, hM⟩
  have hR1 : RoundAt [w.heap.size, d] w1 w.heap.size [] := ((RoundAt.empty [w.heap.size, d] w _).same ((Mod.refl [] _).alloc _)).same hM
  have HR1 := Lib.hid hR1
  have HL1 := Lib.hid hL
  have HM1 := Lib.hid ((((Mod.refl [] w).alloc _).alloc _).trans hM)
  have HD := Lib.hid (show w.heap.size < d ∧ w.heap.size < g by simp at hd hg; omega)
  clear hR1 hd hg hL hM
  go_wp2_with fail
  refine (rnext_any [w.heap.size, d] w.heap.size d g _ 3 [1, 2, 3] [] [0, 0] _ (HR1.out.same ((Mod.refl [] _).alloc _)) (HL1.out.mod ((Mod.refl [] _).alloc _) (by simp) (by simp)) (fun _ => ⟨_, rfl, by simp, fun j x hj => ?_⟩) (by decide) (by decide) (by simp) ?_ (by have := HD.out; omega) (by have := HD.out; omega)).mono ?_
  · rw [add_lit, Nat.zero_add]
    refine cell_in (heap_new _ _) ?_
    match j, hj with
    | 0, hj => simpa using hj
    | 1, hj => simpa using hj
    | 2, hj => simpa using hj
  · have := HL1.out.lt
    have := HM1.out.size
    simp
    omega
  rintro e w2 ⟨rfl, hR, hL, hM⟩
  rw [shown_next] at hR ⊢
  have HR2 := Lib.hid (show RoundAt [w.heap.size, d] w2 w.heap.size [3, 1] from hR)
  have HM2 := Lib.hid ((HM1.out.alloc _).step hM (by have := HD.out; simp; omega))
  clear hR hL hM
  go_wp2_with fail
  refine (rleft_any [w.heap.size, d] w.heap.size [3, 1] _ HR2.out (by decide)).mono ?_
  rintro e w3 ⟨g', rfl, hg', hO, hM⟩
  have HM3 := Lib.hid (HM2.out.trans hM)
  clear hO hM
  go_wp2_with fail
  go_ret
  exact ⟨rfl, HM3.out⟩

end Go.Proofs.Ytnapboojfhojjaa
