/-
  The walk of roll.Hear: of itself and no news; All, Live, Others of a roll that knows itself alone.
-/
import Derived.Test.YtpbamamplmbgjaaGreatDoorTopC
namespace Go.Proofs.YtpbamamplmbgjaaGreatDoor
set_option linter.unusedSimpArgs false
set_option linter.unusedVariables false
open Go.RowKit

theorem cell_lt' {w : World} {p : Addr} {v : Value} (h : w.cell? p = some v) : p.block < w.heap.size := block_lt_of_cell h
theorem Mod.at {S : List Nat} {a b : World} (h : Mod S a b) {p : Addr} {v : Value} (hc : a.cell? p = some v) (hs : p.block ∉ S) : b.cell? p = some v := (h.cell (block_lt_of_cell hc) hs).trans hc
theorem keep4 {a b : World} {p q r s : Addr} {x y z t : Value} (h : Mod [] a b) (k : a.cell? p = some x ∧ a.cell? q = some y ∧ a.cell? r = some z ∧ a.cell? s = some t) : b.cell? p = some x ∧ b.cell? q = some y ∧ b.cell? r = some z ∧ b.cell? s = some t :=
  ⟨h.at k.1 (by simp), h.at k.2.1 (by simp), h.at k.2.2.1 (by simp), h.at k.2.2.2 (by simp)⟩

set_option maxRecDepth 100000 in
set_option maxHeartbeats 4000000 in
theorem hear_own_old (r me : Nat) (hme : me < 64) (f : Nat → Int × Int × Int) (has inc' st' : Int) (hst : 0 ≤ st' ∧ st' ≤ 3) (w : World) (h : RollAt w r me f has) (hold : decide (0 < or2 (cmp3 inc' (f me).2.1) (cmp3 st' 0)) = false) :
    Calls Tryz.prog 10 #[.pointer (some ⟨r, 0, none⟩), .agg #[.int .i64 me, .int .u64 inc', .int .i64 st']] w fun e w' => e = .returned (.tuple #[.bool false, .int .i64 70]) ∧ Mod [] w w' := by
  have H := Lib.hid h
  have HO := Lib.hid hold
  have hrl := h.lt
  have hmm : ((me : Int) == (me : Int)) = true := by simp
  clear h hold
  go_enter Tryz.func10, Tryz.ntmps10
  go_wp2_with fail
  refine (rmay_is me inc' st' (by omega) hst _).mono ?_
  rintro e w1 ⟨rfl, hM⟩
  have hM1 := ((Mod.refl [] w).alloc _).trans hM
  have c0 : w1.cell? ⟨w.heap.size, 0, none⟩ = some (.int .i64 me) := (hM.cell (by simp) (by simp)).trans (cell_in (heap_new _ _) rfl)
  have c1 : w1.cell? ⟨w.heap.size, 1, none⟩ = some (.int .u64 inc') := (hM.cell (by simp) (by simp)).trans (cell_in (heap_new _ _) rfl)
  have c2 : w1.cell? ⟨w.heap.size, 2, none⟩ = some (.int .i64 st') := (hM.cell (by simp) (by simp)).trans (cell_in (heap_new _ _) rfl)
  have cm := (H.out.mod hM1 (by simp)).me
  have HR1 := Lib.hid (H.out.mod hM1 (by simp))
  have HM := Lib.hid hM1
  clear hM hM1
  go_wp2_with fail
  go_region
  go_wp2_with fail
  have HRD := Lib.hid (HR1.out.mod (Mod.refl [] _).drew (by simp))
  have HMD := Lib.hid HM.out.drew
  have d0 : w1.drew.cell? ⟨w.heap.size, 0, none⟩ = some (.int .i64 me) := c0
  have d1 : w1.drew.cell? ⟨w.heap.size, 1, none⟩ = some (.int .u64 inc') := c1
  have d2 : w1.drew.cell? ⟨w.heap.size, 2, none⟩ = some (.int .i64 st') := c2
  have dm : w1.drew.cell? ⟨r, 0, none⟩ = some (.int .i64 me) := cm
  clear c0 c1 c2 cm
  generalize w1.drew = wD at HRD HMD d0 d1 d2 dm ⊢
  have HC := Lib.hid (And.intro dm (And.intro d0 (And.intro d1 d2)))
  obtain ⟨inc, hinc⟩ : ∃ inc, (f me).2.1 = inc := ⟨_, rfl⟩
  have HF := Lib.hid hinc
  have HRF := Lib.hid (fun w' => refute_old (me : Int) inc inc' st' (by omega) hst (by rw [← hinc]; exact HO.out) w')
  clear hinc
  have hfld : ∀ (x y z : Value) (w : World), (Instr.field 24 (.agg #[x, y, z]) 1).run Tryz.prog w = .ok y w := fun x y z w => by kernel_rfl
  go_region_held3 (fun w' => w'.cell? ⟨r, 0, none⟩ = some (.int .i64 me) ∧ w'.cell? ⟨w.heap.size, 0, none⟩ = some (.int .i64 me) ∧ w'.cell? ⟨w.heap.size, 1, none⟩ = some (.int .u64 inc') ∧ w'.cell? ⟨w.heap.size, 2, none⟩ = some (.int .i64 st')) (first | go_keep | exact HK5.out | exact HK6.out) (first | (go_at_call 43; refine (mine_any r me hme f has _ (HRD.out.mod (Mod.refl [] _).drew (by simp))).mono ?_; rintro e w5 ⟨rfl, hM5⟩; have HM5 := Lib.hid (HMD.out.drew.trans hM5); have HK5 := Lib.hid (keep4 hM5 HC.out); clear hM5; unfold updV; rw [HF.out]) | (go_at_call 42; refine (HRF.out _).mono ?_; rintro e w6 ⟨rfl, hM6⟩; have HM6 := Lib.hid (HM5.out.trans hM6); have HK6 := Lib.hid (keep4 hM6 HK5.out); clear hM6))
  go_wp2
  go_ret2
  exact ⟨rfl, HM6.out⟩

theorem row_head {A B : Array Value} {j : Nat} {v : Value} (h : A[j]? = some v) : (A ++ B)[j]? = some v := by
  have hj := (Array.getElem?_eq_some_iff.1 h).1
  rw [Array.getElem?_append_left hj]
  exact h

/-- The roll of node 0 that knows itself alone. -/
def Roll0 (w : World) (r : Nat) : Prop := RollAt w r 0 (rollPut (fun _ => (0, 0, 0)) 0 (0, 0, 0)) 1
theorem Roll0.mod {S : List Nat} {w w' : World} {r : Nat} (h : Roll0 w r) (hm : Mod S w w') (hs : r ∉ S) : Roll0 w' r := RollAt.mod h hm hs

/-- A list of one update that a call made. -/
def OneUpd (w : World) (e : Ending) (w' : World) : Prop := ∃ g c, e = .returned (.slice (some ⟨g, 0, none⟩) 1 c) ∧ g < w'.heap.size ∧ w'.cell? ⟨g, 0, none⟩ = some (.int .i64 0) ∧ w'.cell? ⟨g, 1, none⟩ = some (.int .u64 0) ∧ w'.cell? ⟨g, 2, none⟩ = some (.int .i64 0) ∧ Mod [] w w'

set_option maxHeartbeats 4000000 in
theorem all_one (r : Nat) (w : World) (h : Roll0 w r) (ht : Tab w) : Calls Tryz.prog 29 #[.pointer (some ⟨r, 0, none⟩)] w (OneUpd w) := by
  have H := Lib.hid h
  have cm := h.has
  have hrl := h.lt
  have HT := Lib.hid ht
  clear h ht
  go_enter Tryz.func29, Tryz.ntmps29
  go_wp2_with fail
  refine (blist_is 1 [0] bits_one (by decide) _ HT.out).mono ?_
  rintro e w1 ⟨v, rfl, hO, hM⟩
  obtain ⟨a, c, rfl, hr, hnc, _⟩ := hO.shape
  obtain ⟨ad, rfl, hlt, hc⟩ := hr (by simp)
  have c0 := hc 0 0 rfl
  simp only [Addr.add, if_true] at c0
  have hR := H.out.mod hM (by simp)
  have d0 := hR.node 0 (by omega)
  have d1 := hR.inc 0 (by omega)
  have d2 := hR.state 0 (by omega)
  simp only [rollPut, if_true, Nat.zero_mul, Nat.add_zero] at d0 d1 d2
  have HM := Lib.hid hM
  clear hO hr hnc hc hM hR
  go_wp2_with fail
  refine wp_loop_rounds 2 ?_
  rw [rounds_succ]
  go_wp2
  rw [rounds_succ]
  go_wp2
  go_ret
  refine ⟨w1.heap.size + 1, _, rfl, by simp, ?_, ?_, ?_, ((HM.out.alloc _).alloc _).drew⟩
  · exact cell_in (heap_top w1 _ _) (row_head rfl)
  · exact cell_in (heap_top w1 _ _) (row_head rfl)
  · exact cell_in (heap_top w1 _ _) (row_head rfl)

theorem or_zero : bits .or .u64 0 (2 ^ 0) = 1 := by decide
theorem has_zero : (bits .and .u64 1 (2 ^ 0) != 0) = true := by decide
theorem less_zero : bits .andNot .u64 1 (2 ^ 0) = 0 := by decide

set_option maxHeartbeats 4000000 in
theorem live_one (r : Nat) (w : World) (h : Roll0 w r) (ht : Tab w) : Calls Tryz.prog 31 #[.pointer (some ⟨r, 0, none⟩)] w fun e w' => e = .returned (.int .u64 1) ∧ Mod [] w w' := by
  have H := Lib.hid h
  have HT := Lib.hid ht
  clear h ht
  go_enter Tryz.func31, Tryz.ntmps31
  go_wp2_with fail
  refine (all_one r _ H.out HT.out).mono ?_
  rintro e w1 ⟨g, c, rfl, hg, c0, c1, c2, hM⟩
  have HM := Lib.hid hM
  clear hM
  go_wp2_with fail
  refine wp_loop_rounds 2 ?_
  rw [rounds_succ]
  go_wp2_with fail
  refine (rlive_is 0 0 0 true rfl _).mono ?_
  rintro e w2 ⟨rfl, hM2⟩
  have d0 : w2.cell? ⟨w1.heap.size, 0, none⟩ = some (.int .i64 0) := (hM2.cell (by simp) (by simp)).trans (cell_in (heap_new w1 _) rfl)
  have HM2 := Lib.hid ((HM.out.alloc _).trans hM2)
  clear hM2
  go_wp2_with fail
  refine (with_is 0 1 0 (by decide) or_zero _).mono ?_
  rintro e w3 ⟨rfl, rfl⟩
  go_wp2_with fail
  rw [rounds_succ]
  go_wp2
  go_ret
  exact ⟨rfl, HM2.out⟩

def NilPost (w : World) (e : Ending) (w' : World) : Prop := e = .returned (.slice none 0 0) ∧ Mod [] w w'

theorem bnil_is (w : World) (ht : Tab w) : Calls Tryz.prog 85 #[.int .u64 0] w fun e w' => (∃ a c, e = .returned (.slice a 0 c)) ∧ Mod [] w w' := by
  refine (blist_is 0 [] .nil (by decide) w ht).mono ?_
  rintro e w1 ⟨v, rfl, hO, hM⟩
  obtain ⟨a, c, rfl, _⟩ := hO.shape
  exact ⟨⟨a, c, rfl⟩, hM⟩

set_option maxRecDepth 100000 in
set_option maxHeartbeats 4000000 in
theorem others_one (r : Nat) (w : World) (h : Roll0 w r) (ht : Tab w) : Calls Tryz.prog 74 #[.pointer (some ⟨r, 0, none⟩)] w fun e w' => (∃ a c, e = .returned (.slice a 0 c)) ∧ Mod [] w w' := by
  have H := Lib.hid h
  have cm := h.me
  have hrl := h.lt
  have HT := Lib.hid ht
  clear h ht
  go_enter Tryz.func74, Tryz.ntmps74
  go_wp2_with fail
  go_region_held3 (fun w' => w'.cell? ⟨r, 0, none⟩ = some (.int .i64 0)) (first | go_keep | exact K5.out | exact K6.out) (first | (go_at_call 31; refine (live_one r _ (H.out.mod (Mod.refl [] _).drew (by simp)) (HT.out.mod (Mod.refl [] _).drew (by simp))).mono ?_; rintro e w5 ⟨rfl, hM5⟩; have HM5 := Lib.hid ((Mod.refl [] _).drew.trans hM5); have HT5 := Lib.hid (HT.out.mod HM5.out (by simp)); have K5 := Lib.hid (HM5.out.at (H.out.me) (by simp)); clear hM5) | (go_at_call 133; refine (less_is 1 0 0 (by decide) less_zero _).mono ?_; rintro e w5' ⟨rfl, rfl⟩) | (go_at_call 85; refine (bnil_is _ HT5.out).mono ?_; rintro e w6 ⟨⟨a6, c6, rfl⟩, hM6⟩; have HM6 := Lib.hid (HM5.out.trans hM6); have K6 := Lib.hid (HM6.out.at (H.out.me) (by simp)); clear hM6))
  go_wp2
  go_ret
  exact ⟨⟨a6, c6, rfl⟩, HM6.out⟩

end Go.Proofs.YtpbamamplmbgjaaGreatDoor
