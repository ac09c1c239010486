/-
  The walks of slices.SortFunc at one item, of bits.Len at 1; of rumor.Queue: Put at a queue of none, Items at one.
-/
import Derived.Test.YtpbamamplmbgjaaGreatDoorTopM
import Derived.OwnWalk
namespace Go.Proofs.YtpbamamplmbgjaaGreatDoor
set_option linter.unusedSimpArgs false
set_option linter.unusedVariables false
open Go.RowKit

set_option maxRecDepth 100000 in
set_option maxHeartbeats 1000000 in
theorem len64_one (w : World) : Calls Tryz.prog 161 #[.int .u64 1] w fun e w' => e = .returned (.int .i64 1) ∧ w = w' := by
  go_enter Tryz.func161, Tryz.ntmps161
  go_wp2_with fail
  go_ret
  exact ⟨ret_int (by kernel_rfl), rfl⟩

set_option maxHeartbeats 1000000 in
theorem len_one (w : World) : Calls Tryz.prog 110 #[.int .u64 1] w fun e w' => e = .returned (.int .i64 1) ∧ w = w' := by
  go_enter Tryz.func110, Tryz.ntmps110
  go_wp2_with fail
  refine (len64_one _).mono ?_
  rintro e w1 ⟨rfl, rfl⟩
  go_wp2_with fail
  go_ret
  exact ⟨rfl, rfl⟩

set_option maxHeartbeats 1000000 in
theorem isort_one (a : Option Addr) (c : Nat) (cmp : Value) (w : World) : Calls Tryz.prog 218 #[.slice a 1 c, .int .i64 0, .int .i64 1, cmp] w fun e w' => e = .returned (.tuple #[]) ∧ w = w' := by
  go_enter Tryz.func218, Tryz.ntmps218
  go_wp2_with fail
  refine wp_loop_rounds 1 ?_
  rw [rounds_succ]
  go_wp2_with fail
  refine bodyPost_end (results_none rfl _ _ _) rfl ?_
  exact ⟨rfl, rfl⟩

set_option maxRecDepth 100000 in
set_option maxHeartbeats 2000000 in
theorem pdq_one (a : Option Addr) (c : Nat) (n : Int) (cmp : Value) (w : World) : Calls Tryz.prog 157 #[.slice a 1 c, .int .i64 0, .int .i64 1, .int .i64 n, cmp] w fun e w' => e = .returned (.tuple #[]) ∧ w = w' := by
  go_enter Tryz.func157, Tryz.ntmps157
  go_wp2_with fail
  refine wp_loop_rounds 1 ?_
  rw [rounds_succ]
  go_wp2_with fail
  refine (isort_one a c cmp _).mono ?_
  rintro e w1 ⟨rfl, rfl⟩
  go_wp2_with fail
  refine bodyPost_ret (results_none rfl _ _ _) rfl ?_
  exact ⟨rfl, rfl⟩

theorem sort_one (a : Option Addr) (c : Nat) (cmp : Value) (w : World) : Calls Tryz.prog 102 #[.slice a 1 c, cmp] w fun e w' => e = .returned (.tuple #[]) ∧ w = w' := by
  go_enter Tryz.func102, Tryz.ntmps102
  go_wp2_with fail
  refine (len_one _).mono ?_
  rintro e w1 ⟨rfl, rfl⟩
  go_wp2_with fail
  refine (pdq_one a c 1 cmp _).mono ?_
  rintro e w1 ⟨rfl, rfl⟩
  go_wp2_with fail
  refine bodyPost_end (results_none rfl _ _ _) rfl ?_
  exact ⟨rfl, rfl⟩

/-- What a rumor queue of one bears: the update u, told t times; its map's block b. -/
def itemV (u : Int × Int × Int) (t : Int) : Value := .agg #[.int .i64 u.1, .int .u64 u.2.1, .int .i64 u.2.2, .int .i64 t]
def OneMap (w : World) (b : Nat) (u : Int × Int × Int) (t : Int) : Prop := w.heap[b]? = some (.map #[{ key := .int .i64 u.1, val := itemV u t, born := 0 }] 1)

theorem Tryz.inf_item : (Tryz.prog.info? 127).map (fun i => (i.zero, i.size, i.bytes)) = some (some (itemV (0, 0, 0) 0), 4, 32) := by kernel_rfl

set_option maxRecDepth 100000 in
set_option maxHeartbeats 4000000 in
theorem items_one (q o b : Nat) (u : Int × Int × Int) (t : Int) (w : World) (hq : w.cell? ⟨q, o, none⟩ = some (.map (some b))) (hb : OneMap w b u t) :
    Calls Tryz.prog 46 #[.pointer (some ⟨q, o, none⟩)] w fun e w' => (∃ a, e = .returned (.slice (some ⟨a, 0, none⟩) 1 1) ∧ a < w'.heap.size ∧ w.heap.size ≤ a ∧ (∃ cs, w'.heap[a]? = some (.cells cs 127 (0, 0)) ∧ cs[0]? = some (.int .i64 u.1) ∧ cs[1]? = some (.int .u64 u.2.1) ∧ cs[2]? = some (.int .i64 u.2.2) ∧ cs[3]? = some (.int .i64 t))) ∧ Mod [] w w' := by
  have hln := mrun_len (P := Tryz.prog) (t := 32) (t3 := 3) (K := 3) (E := 127) Tryz.underlying32 hb
  have hmk : ∀ w : World, (Instr.makeSlice 129 (.int .i64 0) (.int .i64 1)).run Tryz.prog w = .ok (.slice (some ⟨w.heap.size, 0, none⟩) 0 1) (w.alloc (.cells #[.int .i64 0, .int .u64 0, .int .i64 0, .int .i64 0] 127)) := fun w => by kernel_rfl
  have hqb : q < w.heap.size := block_lt_of_cell hq
  have hbb : b < w.heap.size := (Array.getElem?_eq_some_iff.1 hb).1
  obtain ⟨W1, hW1⟩ : ∃ W1, w.alloc (.cells #[.int .i64 0, .int .u64 0, .int .i64 0, .int .i64 0] 127) = W1 := ⟨_, rfl⟩
  have hq1 : W1.cell? ⟨q, o, none⟩ = some (.map (some b)) := by rw [← hW1]; exact (World.cell?_of_block (w := w) (Below.heap_alloc _ _ _ hqb)).trans hq
  have hb1 : W1.heap[b]? = some (.map #[{ key := .int .i64 u.1, val := itemV u t, born := 0 }] 1) := by rw [← hW1]; exact (Below.heap_alloc _ _ _ hbb).trans hb
  have hs1 : W1.heap.size = w.heap.size + 1 := by rw [← hW1]; simp
  have hr1 : W1.heap[w.heap.size]? = some (.cells #[.int .i64 0, .int .u64 0, .int .i64 0, .int .i64 0] 127 (0, 0)) := by rw [← hW1]; exact heap_new _ _
  have hm1 : Mod [] w W1 := by rw [← hW1]; exact (Mod.refl [] w).alloc _
  have hrg := mrun_range (P := Tryz.prog) (t := 32) (K := 3) (E := 127) Tryz.underlying32 hb1
  obtain ⟨W2, hW2⟩ : ∃ W2, W1.alloc (.mapIter (some b) 1 #[] 1) = W2 := ⟨_, rfl⟩
  have hb2 : W2.heap[b]? = some (.map #[{ key := .int .i64 u.1, val := itemV u t, born := 0 }] 1) := by rw [← hW2]; exact (Below.heap_alloc _ _ _ (by omega)).trans hb1
  have hi2 : W2.heap[w.heap.size + 1]? = some (.mapIter (some b) 1 #[] 1) := by rw [← hW2]; exact heap_at _ _ _ hs1.symm
  have hr2 : W2.heap[w.heap.size]? = some (.cells #[.int .i64 0, .int .u64 0, .int .i64 0, .int .i64 0] 127 (0, 0)) := by rw [← hW2]; exact (Below.heap_alloc _ _ _ (by omega)).trans hr1
  have hs2 : W2.heap.size = w.heap.size + 2 := by rw [← hW2]; simp [hs1]
  have hm2 : Mod [] w W2 := by rw [← hW2]; exact hm1.alloc _
  rw [hs1, hW2] at hrg
  go_enter Tryz.func46, Tryz.ntmps46
  go_wp2_with fail
  have HW := Lib.hid (And.intro hm1 (And.intro hm2 hs2))
  clear hW1 hW2 hrg hln hmk hq1 hb1 hr1 hs1 hm1 hm2
  obtain ⟨W3, hW3⟩ : ∃ W3, W2.putObj (w.heap.size + 1) (.mapIter (some b) 1 #[0] 1) = W3 := ⟨_, rfl⟩
  have hnx := mrun_next_one (P := Tryz.prog) (ty := 0) hi2 (by omega) hb2
  have hbq : b ≠ w.heap.size + 1 := by omega
  have hb3 : W3.heap[b]? = some (.map #[{ key := .int .i64 u.1, val := itemV u t, born := 0 }] 1) := by rw [← hW3]; exact (World.putObj_heap_other hbq).trans hb2
  have hi3 : W3.heap[w.heap.size + 1]? = some (.mapIter (some b) 1 #[0] 1) := by rw [← hW3]; exact World.putObj_heap_same (by omega)
  have hr3 : W3.heap[w.heap.size]? = some (.cells #[.int .i64 0, .int .u64 0, .int .i64 0, .int .i64 0] 127 (0, 0)) := by rw [← hW3]; exact (World.putObj_heap_other (by omega)).trans hr2
  have hs3 : W3.heap.size = w.heap.size + 2 := by rw [← hW3]; simp [hs2]
  have hen := mrun_entry_one (P := Tryz.prog) hi3 hb3
  have hm3 : Mod [] w W3 := by
    have hm2 := HW.out.2.1
    rw [← hW3]
    exact ⟨hm2.os, hm2.tape, hm2.output, by simpa using hm2.size, fun k hk _ => (World.putObj_heap_other (by omega)).trans (hm2.block k hk (by simp))⟩
  rw [hW3] at hnx
  have hc0 := cell_in hr3 (j := 0) rfl
  have hc1 := cell_in hr3 (j := 1) rfl
  have hc2 := cell_in hr3 (j := 2) rfl
  have hc3 := cell_in hr3 (j := 3) rfl
  have hf0 := free_in (j := 0) hr3
  have hf1 := free_in (j := 1) hr3
  have hf2 := free_in (j := 2) hr3
  have hf3 := free_in (j := 3) hr3
  refine wp_loop_rounds 2 ?_
  rw [rounds_succ]
  unfold itemV at hnx hen
  go_wp2_with fail
  clear hc0 hc1 hc2 hc3 hf0 hf1 hf2 hf3 hnx hen
  obtain ⟨W4, hW4⟩ : ∃ W4, (((((W3.setCell ⟨w.heap.size, 0, none⟩ (.int .i64 u.1)).setCell ⟨w.heap.size, 1, none⟩ (.int .u64 u.2.1)).setCell ⟨w.heap.size, 2, none⟩ (.int .i64 u.2.2)).setCell ⟨w.heap.size, 3, none⟩ (.int .i64 t)).alloc (.cells #[.int .i64 u.1, .int .u64 u.2.1, .int .i64 u.2.2, .int .i64 t] 127)).alloc (.cells #[.int .i64 u.1, .int .u64 u.2.1, .int .i64 u.2.2, .int .i64 t] 127) = W4 := ⟨_, rfl⟩
  have hch : ∀ k, k ≠ w.heap.size → k < W3.heap.size → W4.heap[k]? = W3.heap[k]? := fun k hk hlt => by
    rw [← hW4, Below.heap_alloc _ _ _ (by simp [World.setCell]; omega), Below.heap_alloc _ _ _ (by simpa [World.setCell] using hlt)]
    rw [Below.heap_setCell _ _ _ _ (by simpa using hk), Below.heap_setCell _ _ _ _ (by simpa using hk), Below.heap_setCell _ _ _ _ (by simpa using hk), Below.heap_setCell _ _ _ _ (by simpa using hk)]
  have hb4 := (hch b (by omega) (by omega)).trans hb3
  have hi4 := (hch (w.heap.size + 1) (by omega) (by omega)).trans hi3
  have hr4 : W4.heap[w.heap.size]? = some (.cells #[.int .i64 u.1, .int .u64 u.2.1, .int .i64 u.2.2, .int .i64 t] 127 (0, 0)) := by
    rw [← hW4, Below.heap_alloc _ _ _ (by simp [World.setCell]; omega), Below.heap_alloc _ _ _ (by simp [World.setCell]; omega)]
    simp [World.setCell, Array.getElem?_modify, hr3]
  have hm4 : Mod [] w W4 := by
    rw [← hW4]
    exact (((((hm3.setCell (.inr (by simp)) _).setCell (.inr (by simp)) _).setCell (.inr (by simp)) _).setCell (.inr (by simp)) _).alloc _).alloc _
  have hnx := mrun_next_end (P := Tryz.prog) (ty := 0) hi4 (by omega) hb4
  have HE := Lib.hid (And.intro hm4 hr4)
  rw [hW4]
  clear hW4 hch hb3 hi3 hr3 hs3 hm3 hi4 hr4 hm4 hW3 hb2 hi2 hr2
  rw [rounds_succ]
  go_wp2_with fail
  refine (sort_one _ 1 _ _).mono ?_
  rintro e w5 ⟨rfl, rfl⟩
  go_wp2_with fail
  go_ret
  exact ⟨⟨_, rfl, (Array.getElem?_eq_some_iff.1 HE.out.2).1, Nat.le_refl _, _, HE.out.2, rfl, rfl, rfl, rfl⟩, HE.out.1⟩

set_option maxRecDepth 100000 in
set_option maxHeartbeats 4000000 in
theorem qput_none (q o : Nat) (u : Int × Int × Int) (hn : 0 ≤ u.1 ∧ u.1 < 64) (hs : 0 ≤ u.2.2 ∧ u.2.2 ≤ 3) (w : World) (hq : w.cell? ⟨q, o, none⟩ = some (.map none)) (hf : w.frozen? ⟨q, o, none⟩ = false) :
    Calls Tryz.prog 11 #[.pointer (some ⟨q, o, none⟩), updV u] w fun e w' => e = .returned (.int .i64 0) ∧ (∃ b, w'.cell? ⟨q, o, none⟩ = some (.map (some b)) ∧ OneMap w' b u 0 ∧ w.heap.size ≤ b) ∧ (∀ j, j ≠ o → w'.cell? ⟨q, j, none⟩ = w.cell? ⟨q, j, none⟩) ∧ (∀ j, w'.frozen? ⟨q, j, none⟩ = w.frozen? ⟨q, j, none⟩) ∧ Mod [q] w w' := by
  have hz : ∀ w : World, (zeroValue 127).run Tryz.prog w = .ok (itemV (0, 0, 0) 0) w := fun w => by kernel_rfl
  have hlk : ∀ w : World, (Instr.lookup 32 (.map none) (.int .i64 u.1) true).run Tryz.prog w = .ok (.tuple #[itemV (0, 0, 0) 0, .bool false]) w := fun w => mrun_look_nil (P := Tryz.prog) Tryz.underlying32 Tryz.underlying3 (hz w)
  have hmm := @run_makeMap Tryz.prog
  have hbo : ∀ w : World, (binOp .eql 32 (.map none) (.map none)).run Tryz.prog w = .ok (.bool true) w := fun w => by kernel_rfl
  have hql := block_lt_of_cell hq
  obtain ⟨un, ui, us⟩ := u
  unfold updV
  unfold itemV at hlk
  simp only at hn hs hlk ⊢
  have HQ := Lib.hid (And.intro hq hf)
  clear hz hq hf
  go_enter Tryz.func11, Tryz.ntmps11
  go_wp2_with fail
  refine (rmay_is un ui us hn hs _).mono ?_
  rintro e w1 ⟨rfl, hM⟩
  have hM1 := ((Mod.refl [] w).alloc _).trans hM
  have d0 : w1.cell? ⟨w.heap.size, 0, none⟩ = some (.int .i64 un) := (hM.cell (by simp) (by simp)).trans (cell_in (heap_new _ _) rfl)
  have d1 : w1.cell? ⟨w.heap.size, 1, none⟩ = some (.int .u64 ui) := (hM.cell (by simp) (by simp)).trans (cell_in (heap_new _ _) rfl)
  have d2 : w1.cell? ⟨w.heap.size, 2, none⟩ = some (.int .i64 us) := (hM.cell (by simp) (by simp)).trans (cell_in (heap_new _ _) rfl)
  have hq := (hM1.cell (by exact hql) (by simp)).trans HQ.out.1
  have hf := (hM1.frozen (by exact hql) (by simp)).trans HQ.out.2
  have hs1 := hM1.size
  have hs1' : w.heap.size < w1.heap.size := Nat.lt_of_lt_of_le (by simp) hM.size
  have HM := Lib.hid hM1
  have hql1 : q < w1.heap.size := by omega
  have hne1 : ¬ q = w1.heap.size := by omega
  clear hM hM1
  go_wp2_with fail
  go_region
  go_wp2
  obtain ⟨b, hbn⟩ : ∃ b, w1.heap.size + 1 = b := ⟨_, rfl⟩
  obtain ⟨W3, hW3⟩ : ∃ W3, (((w1.setCell ⟨q, o, none⟩ (.map (some (w1.heap.size + 1)))).alloc (.cells #[.int .i64 0, .int .u64 0, .int .i64 0, .int .i64 0] 127)).alloc (.map #[] 0)).drew = W3 := ⟨_, rfl⟩
  have hch : Mod [q] w1 W3 := by rw [← hW3]; exact ((((Mod.refl [q] w1).setCell (.inl (by simp)) _).alloc _).alloc _).drew
  have hqo : W3.cell? ⟨q, o, none⟩ = some (.map (some b)) := by
    rw [← hW3, ← hbn]
    simp only [World.cell?_drew]
    rw [World.cell?_of_block (w := w1.setCell ⟨q, o, none⟩ (.map (some (w1.heap.size + 1)))) ((Below.heap_alloc _ _ _ (by simp [World.setCell]; omega)).trans (Below.heap_alloc _ _ _ (by simp [World.setCell]; omega)))]
    exact cell_set_same hq
  have hmb : W3.heap[b]? = some (.map #[] 0) := by rw [← hW3, ← hbn]; exact heap_at _ _ _ (by simp [World.setCell])
  have hoth : ∀ j, j ≠ o → W3.cell? ⟨q, j, none⟩ = w1.cell? ⟨q, j, none⟩ := fun j hj => by
    rw [← hW3]
    simp only [World.cell?_drew]
    rw [World.cell?_of_block (w := w1.setCell ⟨q, o, none⟩ (.map (some (w1.heap.size + 1)))) ((Below.heap_alloc _ _ _ (by simp [World.setCell]; omega)).trans (Below.heap_alloc _ _ _ (by simp [World.setCell]; omega)))]
    exact cell_set_off _ _ _ _ (by simpa using fun e => hj e.symm)
  have hfr : ∀ j, W3.frozen? ⟨q, j, none⟩ = w1.frozen? ⟨q, j, none⟩ := fun j => by
    rw [← hW3]
    simp only [World.frozen?_drew]
    rw [World.frozen?_of_block (w := w1.setCell ⟨q, o, none⟩ (.map (some (w1.heap.size + 1)))) ((Below.heap_alloc _ _ _ (by simp [World.setCell]; omega)).trans (Below.heap_alloc _ _ _ (by simp [World.setCell]; omega)))]
    exact World.frozen?_setCell _ _ _ _
  have e0 := hch.at d0 (by simp; omega)
  have e1 := hch.at d1 (by simp; omega)
  have e2 := hch.at d2 (by simp; omega)
  have hbq : b ≠ q := by omega
  have HW3 := Lib.hid (And.intro hch (And.intro hoth hfr))
  rw [hbn]
  rw [hbn] at hW3
  rw [hW3]
  have hup := mrun_update_new (P := Tryz.prog) (w := W3.drew) (v := .agg #[.int .i64 un, .int .u64 ui, .int .i64 us, .int .i64 0]) (k := un) Tryz.underlying32 Tryz.underlying3 (show W3.drew.heap[b]? = some (.map #[] 0) from hmb)
  obtain ⟨W4, hW4⟩ : ∃ W4, W3.drew.putObj b (.map #[{ key := .int .i64 un, val := .agg #[.int .i64 un, .int .u64 ui, .int .i64 us, .int .i64 0], born := 0 }] (0 + 1)) = W4 := ⟨_, rfl⟩
  have hob4 : OneMap W4 b (un, ui, us) 0 := by rw [← hW4]; exact World.putObj_heap_same (Array.getElem?_eq_some_iff.1 hmb).1
  have hm4 : ∀ k, k ≠ b → W4.heap[k]? = W3.heap[k]? := fun k hk => by rw [← hW4]; exact World.putObj_heap_other hk
  have hq4 : W4.cell? ⟨q, o, none⟩ = some (.map (some b)) := (World.cell?_of_block (w := W3) (hm4 q (Ne.symm hbq))).trans hqo
  have hmod4 : Mod [q] w W4 := by
    have h1 := HM.out
    have h2 := HW3.out.1
    have h3 : Mod [b] W3 W4 := by rw [← hW4]; exact ⟨rfl, rfl, rfl, by simp, fun k _ hk => World.putObj_heap_other (by simpa using hk)⟩
    exact ((h1.mono (T := [q]) (by simp)).trans h2).step h3 (fun t ht => .inr (by simp at ht; omega))
  have hoth4 : ∀ j, j ≠ o → W4.cell? ⟨q, j, none⟩ = w.cell? ⟨q, j, none⟩ := fun j hj => (World.cell?_of_block (w := W3) (hm4 q (Ne.symm hbq))).trans ((hoth j hj).trans (HM.out.cell hql (by simp)))
  have hfr4 : ∀ j, W4.frozen? ⟨q, j, none⟩ = w.frozen? ⟨q, j, none⟩ := fun j => (World.frozen?_of_block (w := W3) (hm4 q (Ne.symm hbq))).trans ((hfr j).trans (HM.out.frozen hql (by simp)))
  have H4 := Lib.hid (And.intro hob4 (And.intro hq4 (And.intro hmod4 (And.intro hoth4 hfr4))))
  have hbw : w.heap.size ≤ b := by omega
  rw [hW4] at hup
  clear hmb hoth hfr hch hW3 hW4 hob4 hm4 hq4 hmod4 hoth4 hfr4 d0 d1 d2 hq hf hlk hmm hbo
  go_region
  go_wp2_with fail
  refine (items_one q o b (un, ui, us) 0 _ H4.out.2.1 H4.out.1).mono ?_
  rintro e w6 ⟨⟨a6, rfl, _⟩, hM6⟩
  go_wp2_with fail
  go_ret
  obtain ⟨hob4, hq4, hmod4, hoth4, hfr4⟩ := H4.out
  have hb4 := (Array.getElem?_eq_some_iff.1 hob4).1
  have hql4 := block_lt_of_cell hq4
  refine ⟨rfl, ⟨b, (hM6.cell hql4 (by simp)).trans hq4, (hM6.block b hb4 (by simp)).trans hob4, hbw⟩, fun j hj => (hM6.cell (by exact hql4) (by simp)).trans (hoth4 j hj), fun j => (hM6.frozen (by exact hql4) (by simp)).trans (hfr4 j), hmod4.trans (hM6.mono (by simp))⟩

end Go.Proofs.YtpbamamplmbgjaaGreatDoor
