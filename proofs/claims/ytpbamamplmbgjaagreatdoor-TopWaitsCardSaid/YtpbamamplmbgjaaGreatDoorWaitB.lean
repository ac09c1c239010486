/-
  The walks of package doubt at what TopWaits does: one doubt raised, its time, what is over.
-/
import Derived.Test.YtpbamamplmbgjaaGreatDoorWaitA
import Derived.Laws.Bits64b
import Derived.Test.YtpbamamplmbgjaaGreatDoorTopZ
namespace Go.Proofs.YtpbamamplmbgjaaGreatDoor
set_option linter.unusedSimpArgs false
set_option linter.unusedVariables false
open Go.RowKit

theorem held_zero (x : Nat) (hx : x < 18446744073709551616) (w : World) : Calls Tryz.prog 106 #[.int .u64 x, .int .u64 0] w fun e w' => e = .returned (.int .u64 x) ∧ w = w' := by
  have h0 : 0 ≤ (x : Int) ∧ (x : Int) < 18446744073709551616 := by omega
  obtain ⟨h0, h1⟩ := h0
  go_enter Tryz.func106, Tryz.ntmps106
  go_wp2_with fail
  go_ret
  have hb : bits .or .u64 (x : Int) 0 = x := by
    have := bits_or_u64_nat x 0 hx (by omega)
    simpa using this
  exact ⟨(show Ending.returned (.int .u64 (bits .or .u64 (x : Int) 0)) = _ by rw [hb]), rfl⟩

theorem add64_run (x y : Nat) (hx : x + y < 18446744073709551616) (w : World) :
    (callFunc 64 #[.int .u64 x, .int .u64 y, .int .u64 0]).run Tryz.prog w = .ok (.value (.tuple #[.int .u64 (x + y : Nat), .int .u64 0])) w := by
  rw [run_callFunc_extern (e := add64Entry) Tryz.func64 (by kernel_rfl) (by kernel_rfl) (by kernel_rfl) (by kernel_rfl)]
  have := run_add64 (P := Tryz.prog) x y 0 (by omega) (by omega) (by omega) (by omega) w
  rw [this]
  rw [show ((x : Int) + y + 0) % 18446744073709551616 = ((x + y : Nat) : Int) by omega, show ((x : Int) + y + 0) / 18446744073709551616 = 0 by omega]
  rfl

structure DoubtAt (w : World) (p : Nat) (u : Int × Int × Int) (from' since told until' : Int) : Prop where
  c0 : w.cell? ⟨p, 0, none⟩ = some (.int .i64 u.1)
  c1 : w.cell? ⟨p, 1, none⟩ = some (.int .u64 u.2.1)
  c2 : w.cell? ⟨p, 2, none⟩ = some (.int .i64 u.2.2)
  c3 : w.cell? ⟨p, 3, none⟩ = some (.int .u64 from')
  c4 : w.cell? ⟨p, 4, none⟩ = some (.int .u64 since)
  c5 : w.cell? ⟨p, 5, none⟩ = some (.int .u64 told)
  c6 : w.cell? ⟨p, 6, none⟩ = some (.int .u64 until')
  fz : w.frozen? ⟨p, 6, none⟩ = false

theorem DoubtAt.mod {w w' : World} {S : List Nat} {p : Nat} {u : Int × Int × Int} {a b c d : Int} (h : DoubtAt w p u a b c d) (hM : Mod S w w') (hp : p ∉ S) : DoubtAt w' p u a b c d :=
  ⟨hM.at h.c0 hp, hM.at h.c1 hp, hM.at h.c2 hp, hM.at h.c3 hp, hM.at h.c4 hp, hM.at h.c5 hp, hM.at h.c6 hp, (hM.frozen (block_lt_of_cell h.c6) hp).trans h.fz⟩

set_option maxRecDepth 100000 in
set_option maxHeartbeats 4000000 in
theorem dwait_walk (p n base G since t : Nat) (u : Int × Int × Int) (fr un : Int) (hs : since + t < 18446744073709551616) (hW : ∀ w, Calls Tryz.prog 16 #[.float .f64 base, .int .i64 n, .int .i64 0, .int .i64 3] w fun e w' => e = .returned (.float .f64 G) ∧ Mod [] w w')
    (hT : ∀ w, Calls Tryz.prog 15 #[.float .f64 G] w fun e w' => e = .returned (.int .u64 t) ∧ w = w') (w : World) (h : DoubtAt w p u fr since 0 un) :
    Calls Tryz.prog 50 #[.pointer (some ⟨p, 0, none⟩), .int .i64 n, .float .f64 base] w fun e w' => e = .returned (.tuple #[]) ∧ DoubtAt w' p u fr since 0 (since + t : Nat) ∧ Mod [p] w w' := by
  have HW := Lib.hid hW
  have HT := Lib.hid hT
  have HH := Lib.hid (held_zero (since + t) hs)
  have HA := add64_run since t hs
  have H := Lib.hid h
  have c4 := h.c4
  have c5 := h.c5
  clear hW hT h
  generalize since + t = x at HH HA ⊢
  go_enter Tryz.func50, Tryz.ntmps50
  go_wp2_with fail
  have c6 := H.out.c6
  have fz := H.out.fz
  go_region_held3 (fun w' => w'.cell? ⟨p, 4, none⟩ = some (.int .u64 since) ∧ w'.cell? ⟨p, 5, none⟩ = some (.int .u64 0)) (first | exact ⟨c4, c5⟩ | exact ⟨HM5.out.at c4 (by simp), HM5.out.at c5 (by simp)⟩ | exact ⟨(cell_set_off _ _ _ _ (by simp)).trans (HM5.out.at c4 (by simp)), (cell_set_off _ _ _ _ (by simp)).trans (HM5.out.at c5 (by simp))⟩) ((first | (go_at_call 16; refine (HW.out _).mono ?_; rintro e w5 ⟨rfl, hM5⟩; have HM5 := Lib.hid ((Mod.refl [] w).drew.trans hM5); clear hM5; have d6 := HM5.out.at c6 (by simp); have dz := (HM5.out.frozen (block_lt_of_cell c6) (by simp)).trans fz) | (go_at_call 15; refine (HT.out _).mono ?_; rintro e w6 ⟨rfl, rfl⟩) | (go_at_call 106; refine (HH.out _).mono ?_; rintro e w7 ⟨rfl, rfl⟩)))
  refine bodyPost_end (results_none rfl _ _ _) rfl ?_
  have D := H.out.mod HM5.out (by simp)
  refine ⟨rfl, ⟨?_, ?_, ?_, ?_, ?_, ?_, cell_set_same d6, (frozen_set _ _ _ _).trans dz⟩, (HM5.out.wide (by simp)).setCell (.inl (by simp)) _⟩
  · exact (cell_set_off _ _ _ _ (by simp)).trans D.c0
  · exact (cell_set_off _ _ _ _ (by simp)).trans D.c1
  · exact (cell_set_off _ _ _ _ (by simp)).trans D.c2
  · exact (cell_set_off _ _ _ _ (by simp)).trans D.c3
  · exact (cell_set_off _ _ _ _ (by simp)).trans D.c4
  · exact (cell_set_off _ _ _ _ (by simp)).trans D.c5

theorem set7 {w : World} {p : Nat} {x0 x1 x2 x3 x4 x5 x6 : Value} (v0 v1 v2 v3 v4 v5 v6 : Value) (p0 : w.cell? ⟨p, 0, none⟩ = some x0) (p1 : w.cell? ⟨p, 1, none⟩ = some x1) (p2 : w.cell? ⟨p, 2, none⟩ = some x2) (p3 : w.cell? ⟨p, 3, none⟩ = some x3) (p4 : w.cell? ⟨p, 4, none⟩ = some x4) (p5 : w.cell? ⟨p, 5, none⟩ = some x5) (p6 : w.cell? ⟨p, 6, none⟩ = some x6)
    (W : World) (hW : (((((((w.setCell ⟨p, 0, none⟩ v0).setCell ⟨p, 1, none⟩ v1).setCell ⟨p, 2, none⟩ v2).setCell ⟨p, 3, none⟩ v3).setCell ⟨p, 4, none⟩ v4).setCell ⟨p, 5, none⟩ v5).setCell ⟨p, 6, none⟩ v6) = W) :
    W.cell? ⟨p, 0, none⟩ = some v0 ∧ W.cell? ⟨p, 1, none⟩ = some v1 ∧ W.cell? ⟨p, 2, none⟩ = some v2 ∧ W.cell? ⟨p, 3, none⟩ = some v3 ∧ W.cell? ⟨p, 4, none⟩ = some v4 ∧ W.cell? ⟨p, 5, none⟩ = some v5 ∧ W.cell? ⟨p, 6, none⟩ = some v6 ∧ (∀ j, W.frozen? ⟨p, j, none⟩ = w.frozen? ⟨p, j, none⟩) ∧ (∀ a : Addr, p ≠ a.block → W.cell? a = w.cell? a) ∧ (∀ S a, Mod S a w → a.heap.size ≤ p → Mod S a W) := by
  subst hW
  have o : ∀ (w : World) (i j : Nat) (v : Value), i ≠ j → (w.setCell ⟨p, i, none⟩ v).cell? ⟨p, j, none⟩ = w.cell? ⟨p, j, none⟩ := fun w i j v h => cell_set_off _ _ _ _ h
  refine ⟨?_, ?_, ?_, ?_, ?_, ?_, ?_, ?_, ?_, ?_⟩
  · rw [o _ 6 0 _ (by omega), o _ 5 0 _ (by omega), o _ 4 0 _ (by omega), o _ 3 0 _ (by omega), o _ 2 0 _ (by omega), o _ 1 0 _ (by omega)]
    exact cell_set_same p0
  · rw [o _ 6 1 _ (by omega), o _ 5 1 _ (by omega), o _ 4 1 _ (by omega), o _ 3 1 _ (by omega), o _ 2 1 _ (by omega)]
    exact cell_set_same ((o _ 0 1 _ (by omega)).trans p1)
  · rw [o _ 6 2 _ (by omega), o _ 5 2 _ (by omega), o _ 4 2 _ (by omega), o _ 3 2 _ (by omega)]
    exact cell_set_same ((o _ 1 2 _ (by omega)).trans ((o _ 0 2 _ (by omega)).trans p2))
  · rw [o _ 6 3 _ (by omega), o _ 5 3 _ (by omega), o _ 4 3 _ (by omega)]
    exact cell_set_same ((o _ 2 3 _ (by omega)).trans ((o _ 1 3 _ (by omega)).trans ((o _ 0 3 _ (by omega)).trans p3)))
  · rw [o _ 6 4 _ (by omega), o _ 5 4 _ (by omega)]
    exact cell_set_same ((o _ 3 4 _ (by omega)).trans ((o _ 2 4 _ (by omega)).trans ((o _ 1 4 _ (by omega)).trans ((o _ 0 4 _ (by omega)).trans p4))))
  · rw [o _ 6 5 _ (by omega)]
    exact cell_set_same ((o _ 4 5 _ (by omega)).trans ((o _ 3 5 _ (by omega)).trans ((o _ 2 5 _ (by omega)).trans ((o _ 1 5 _ (by omega)).trans ((o _ 0 5 _ (by omega)).trans p5)))))
  · exact cell_set_same ((o _ 5 6 _ (by omega)).trans ((o _ 4 6 _ (by omega)).trans ((o _ 3 6 _ (by omega)).trans ((o _ 2 6 _ (by omega)).trans ((o _ 1 6 _ (by omega)).trans ((o _ 0 6 _ (by omega)).trans p6))))))
  · intro j
    simp only [frozen_set]
  · intro a ha
    have f : ∀ (w : World) (i : Nat) (v : Value), (w.setCell ⟨p, i, none⟩ v).cell? a = w.cell? a := fun w i v => cell_set_far _ _ _ _ ha
    rw [f, f, f, f, f, f, f]
  · intro S a hM h
    exact ((((((hM.setCell (.inr h) _).setCell (.inr h) _).setCell (.inr h) _).setCell (.inr h) _).setCell (.inr h) _).setCell (.inr h) _).setCell (.inr h) _

def doubtV (fr si tl un : Int) : Value := .agg #[.int .i64 5, .int .u64 0, .int .i64 1, .int .u64 fr, .int .u64 si, .int .u64 tl, .int .u64 un]
def doubtZ : Value := .agg #[.int .i64 0, .int .u64 0, .int .i64 0, .int .u64 0, .int .u64 0, .int .u64 0, .int .u64 0]

set_option maxRecDepth 100000 in
set_option maxHeartbeats 4000000 in
theorem raise_one (d n base G now t un : Nat) (hun : now + t = un) (hs : now + t < 18446744073709551616) (hW : ∀ w, Calls Tryz.prog 16 #[.float .f64 base, .int .i64 n, .int .i64 0, .int .i64 3] w fun e w' => e = .returned (.float .f64 G) ∧ Mod [] w w')
    (hT : ∀ w, Calls Tryz.prog 15 #[.float .f64 G] w fun e w' => e = .returned (.int .u64 t) ∧ w = w') (w : World) (hd : w.cell? ⟨d, 0, none⟩ = some (.map none)) (hf : w.frozen? ⟨d, 0, none⟩ = false) :
    Calls Tryz.prog 14 #[.pointer (some ⟨d, 0, none⟩), .agg #[.int .i64 5, .int .u64 0, .int .i64 1], .int .i64 1, .int .u64 now, .int .i64 n, .float .f64 base] w fun e w' => e = .returned (.tuple #[.bool true, .int .i64 0]) ∧ (∃ b, w'.cell? ⟨d, 0, none⟩ = some (.map (some b)) ∧ w'.heap[b]? = some (.map #[{ key := .int .i64 5, val := doubtV 2 now 0 un, born := 0 }] 1) ∧ w.heap.size ≤ b) ∧ w'.frozen? ⟨d, 0, none⟩ = false ∧ Mod [d] w w' := by
  have hz : ∀ w : World, (zeroValue 134).run Tryz.prog w = .ok doubtZ w := fun w => by kernel_rfl
  have hlk : ∀ w : World, (Instr.lookup 47 (.map none) (.int .i64 5) true).run Tryz.prog w = .ok (.tuple #[doubtZ, .bool false]) w := fun w => mrun_look_nil (P := Tryz.prog) Tryz.underlying47 Tryz.underlying3 (hz w)
  have hmm := @run_makeMap Tryz.prog
  have hbo : ∀ w : World, (binOp .eql 47 (.map none) (.map none)).run Tryz.prog w = .ok (.bool true) w := fun w => by kernel_rfl
  have hql := block_lt_of_cell hd
  unfold doubtZ at hlk
  have HW := Lib.hid hW
  have HT := Lib.hid hT
  have HS := Lib.hid hs
  have HUN := Lib.hid hun
  clear hun
  have HQ := Lib.hid (And.intro hd hf)
  clear hz hd hf hW hT hs
  go_enter Tryz.func14, Tryz.ntmps14
  go_wp2_with fail
  refine (rmay_is 5 0 1 (by omega) (by omega) _).mono ?_
  rintro e w1 ⟨rfl, hM⟩
  have hM1 := ((Mod.refl [] w).alloc _).trans hM
  have d0 : w1.cell? ⟨w.heap.size, 0, none⟩ = some (.int .i64 5) := (hM.cell (by simp) (by simp)).trans (cell_in (heap_new _ _) rfl)
  have d1 : w1.cell? ⟨w.heap.size, 1, none⟩ = some (.int .u64 0) := (hM.cell (by simp) (by simp)).trans (cell_in (heap_new _ _) rfl)
  have d2 : w1.cell? ⟨w.heap.size, 2, none⟩ = some (.int .i64 1) := (hM.cell (by simp) (by simp)).trans (cell_in (heap_new _ _) rfl)
  have hq := (hM1.cell (by exact hql) (by simp)).trans HQ.out.1
  have hf := (hM1.frozen (by exact hql) (by simp)).trans HQ.out.2
  have hs1' : w.heap.size < w1.heap.size := Nat.lt_of_lt_of_le (by simp) hM.size
  have HM := Lib.hid hM1
  have hne : ¬ d = w.heap.size := by omega
  have hql1 : d < w1.heap.size := by omega
  have hne1 : ¬ d = w1.heap.size := by omega
  clear hM hM1
  generalize hqe : w.heap.size = q at d0 d1 d2 hs1' hne hql ⊢
  go_wp2_with fail
  go_region
  have hrow : (w1.alloc (.cells #[.int .i64 0, .int .u64 0, .int .i64 0, .int .u64 0, .int .u64 0, .int .u64 0, .int .u64 0] 134)).drew.heap[w1.heap.size]? = some (.cells #[.int .i64 0, .int .u64 0, .int .i64 0, .int .u64 0, .int .u64 0, .int .u64 0, .int .u64 0] 134) := heap_new _ _
  have hMA := ((Mod.refl [] w1).alloc (.cells #[.int .i64 0, .int .u64 0, .int .i64 0, .int .u64 0, .int .u64 0, .int .u64 0, .int .u64 0] 134)).drew
  replace d0 := hMA.at d0 (by simp)
  replace d1 := hMA.at d1 (by simp)
  replace d2 := hMA.at d2 (by simp)
  replace hf := (hMA.frozen (block_lt_of_cell hq) (by simp)).trans hf
  replace hq := hMA.at hq (by simp)
  replace HM := Lib.hid (HM.out.trans hMA)
  clear hMA hlk
  generalize hWW : (w1.alloc (.cells #[.int .i64 0, .int .u64 0, .int .i64 0, .int .u64 0, .int .u64 0, .int .u64 0, .int .u64 0] 134)).drew = W at *
  generalize w1.heap.size = p at *
  clear hWW
  have hpq : p ≠ q := by omega
  go_wp2
  have p0 := cell_in hrow (show (#[Value.int .i64 0, .int .u64 0, .int .i64 0, .int .u64 0, .int .u64 0, .int .u64 0, .int .u64 0] : Array Value)[0]? = some (.int .i64 0) from rfl)
  have p1 := cell_in hrow (show (#[Value.int .i64 0, .int .u64 0, .int .i64 0, .int .u64 0, .int .u64 0, .int .u64 0, .int .u64 0] : Array Value)[1]? = some (.int .u64 0) from rfl)
  have p2 := cell_in hrow (show (#[Value.int .i64 0, .int .u64 0, .int .i64 0, .int .u64 0, .int .u64 0, .int .u64 0, .int .u64 0] : Array Value)[2]? = some (.int .i64 0) from rfl)
  have p3 := cell_in hrow (show (#[Value.int .i64 0, .int .u64 0, .int .i64 0, .int .u64 0, .int .u64 0, .int .u64 0, .int .u64 0] : Array Value)[3]? = some (.int .u64 0) from rfl)
  have p4 := cell_in hrow (show (#[Value.int .i64 0, .int .u64 0, .int .i64 0, .int .u64 0, .int .u64 0, .int .u64 0, .int .u64 0] : Array Value)[4]? = some (.int .u64 0) from rfl)
  have p5 := cell_in hrow (show (#[Value.int .i64 0, .int .u64 0, .int .i64 0, .int .u64 0, .int .u64 0, .int .u64 0, .int .u64 0] : Array Value)[5]? = some (.int .u64 0) from rfl)
  have p6 := cell_in hrow (show (#[Value.int .i64 0, .int .u64 0, .int .i64 0, .int .u64 0, .int .u64 0, .int .u64 0, .int .u64 0] : Array Value)[6]? = some (.int .u64 0) from rfl)
  have z0 : W.frozen? ⟨p, 0, none⟩ = false := by simp [World.frozen?, hrow]
  have z1 : W.frozen? ⟨p, 1, none⟩ = false := by simp [World.frozen?, hrow]
  have z2 : W.frozen? ⟨p, 2, none⟩ = false := by simp [World.frozen?, hrow]
  have z3 : W.frozen? ⟨p, 3, none⟩ = false := by simp [World.frozen?, hrow]
  have z4 : W.frozen? ⟨p, 4, none⟩ = false := by simp [World.frozen?, hrow]
  have z5 : W.frozen? ⟨p, 5, none⟩ = false := by simp [World.frozen?, hrow]
  have z6 : W.frozen? ⟨p, 6, none⟩ = false := by simp [World.frozen?, hrow]
  go_region_held3 (fun w' => w'.cell? ⟨q, 0, none⟩ = some (.int .i64 5) ∧ w'.cell? ⟨q, 1, none⟩ = some (.int .u64 0) ∧ w'.cell? ⟨q, 2, none⟩ = some (.int .i64 1)) (go_keep) ((go_at_call 49; refine (with_is 0 2 1 (by omega) (by decide) _).mono ?_; rintro e w5 ⟨rfl, rfl⟩))
  obtain ⟨V, hV⟩ : ∃ V, (((((((W.setCell ⟨p, 0, none⟩ (.int .i64 5)).setCell ⟨p, 1, none⟩ (.int .u64 0)).setCell ⟨p, 2, none⟩ (.int .i64 1)).setCell ⟨p, 3, none⟩ (.int .u64 2)).setCell ⟨p, 4, none⟩ (.int .u64 now)).setCell ⟨p, 5, none⟩ (.int .u64 0)).setCell ⟨p, 6, none⟩ (.int .u64 0)) = V := ⟨_, rfl⟩
  obtain ⟨s0, s1, s2, s3, s4, s5, s6, sf, so, sm⟩ := set7 _ _ _ _ _ _ _ p0 p1 p2 p3 p4 p5 p6 V hV
  rw [hV]
  have HD := Lib.hid (show DoubtAt V.drew p (5, 0, 1) 2 now 0 0 from ⟨s0, s1, s2, s3, s4, s5, s6, (sf 6).trans z6⟩)
  have hMV := Lib.hid ((sm [] w HM.out (by omega)).drew)
  have hpd : p ≠ d := fun e => hne1 e.symm
  have e0 : V.drew.cell? ⟨q, 0, none⟩ = some (.int .i64 5) := (so _ hpq).trans d0
  have eq : V.drew.cell? ⟨d, 0, none⟩ = some (.map none) := (so _ hpd).trans hq
  have hVf : ∀ a : Addr, p ≠ a.block → V.frozen? a = W.frozen? a := fun a ha => by
    rw [← hV]
    simp only [frozen_set]
  have ef : V.drew.frozen? ⟨d, 0, none⟩ = false := (hVf _ hpd).trans hf
  clear s0 s1 s2 s3 s4 s5 s6 sf so sm hV p0 p1 p2 p3 p4 p5 p6 z0 z1 z2 z3 z4 z5 z6 hrow d0 d1 d2 hq hf hVf
  generalize V.drew = V at *
  go_wp2_with fail
  refine (dwait_walk p n base G now t (5, 0, 1) 2 0 HS.out HW.out HT.out _ HD.out).mono ?_
  rintro e w6 ⟨rfl, hD6, hM6⟩
  rw [HUN.out] at hD6
  have f0 := hM6.at e0 (by simp; omega)
  have fq := hM6.at eq (by simp; omega)
  have ff := (hM6.frozen (block_lt_of_cell eq) (by simp; omega)).trans ef
  have HD6 := Lib.hid hD6
  have HM6 := Lib.hid (hMV.out.step hM6 (fun k hk => .inr (by simp at hk; omega)))
  have hdl := block_lt_of_cell fq
  have hpl := block_lt_of_cell hD6.c0
  clear e0 eq ef hD6 hM6 hMV
  go_wp2
  obtain ⟨b, hbn⟩ : ∃ b, w6.heap.size = b := ⟨_, rfl⟩
  have hch : Mod [d] w6 ((w6.setCell ⟨d, 0, none⟩ (.map (some w6.heap.size))).alloc (.map #[] 0)) := ((Mod.refl [d] w6).setCell (.inl (by simp)) _).alloc _
  have hqo : ((w6.setCell ⟨d, 0, none⟩ (.map (some w6.heap.size))).alloc (.map #[] 0)).cell? ⟨d, 0, none⟩ = some (.map (some b)) := by
    rw [hbn, World.cell?_of_block (w := w6.setCell ⟨d, 0, none⟩ (.map (some b))) (Below.heap_alloc _ _ _ (by simp [World.setCell]; omega))]
    exact cell_set_same fq
  have hmb : ((w6.setCell ⟨d, 0, none⟩ (.map (some w6.heap.size))).alloc (.map #[] 0)).heap[b]? = some (.map #[] 0) := by rw [← hbn]; exact heap_at _ _ _ (by simp [World.setCell])
  have hfo : ((w6.setCell ⟨d, 0, none⟩ (.map (some w6.heap.size))).alloc (.map #[] 0)).frozen? ⟨d, 0, none⟩ = false := by
    rw [World.frozen?_of_block (w := w6.setCell ⟨d, 0, none⟩ (.map (some w6.heap.size))) (Below.heap_alloc _ _ _ (by simp [World.setCell]; omega))]
    exact (World.frozen?_setCell _ _ _ _).trans ff
  have HD7 := Lib.hid (HD6.out.mod hch (by simp; omega))
  have g0 := hch.at f0 (by simp; omega)
  have HM7 := Lib.hid (And.intro HM6.out hch)
  generalize ((w6.setCell ⟨d, 0, none⟩ (.map (some w6.heap.size))).alloc (.map #[] 0)) = X at hch hqo hmb hfo HD7 g0 HM7 ⊢
  have k0 := HD7.out.c0
  have k1 := HD7.out.c1
  have k2 := HD7.out.c2
  have k3 := HD7.out.c3
  have k4 := HD7.out.c4
  have k5 := HD7.out.c5
  have k6 := HD7.out.c6
  have hup := mrun_update_new (P := Tryz.prog) (w := X.drew) (v := doubtV 2 now 0 un) (k := 5) Tryz.underlying47 Tryz.underlying3 (show X.drew.heap[b]? = some (.map #[] 0) from hmb)
  obtain ⟨W4, hW4⟩ : ∃ W4, X.drew.putObj b (.map #[{ key := .int .i64 5, val := doubtV 2 now 0 un, born := 0 }] (0 + 1)) = W4 := ⟨_, rfl⟩
  rw [hW4] at hup
  have hbd : b ≠ d := by omega
  have hm4 : ∀ k, k ≠ b → W4.heap[k]? = X.heap[k]? := fun k hk => by rw [← hW4]; exact World.putObj_heap_other hk
  have hob4 : W4.heap[b]? = some (.map #[{ key := .int .i64 5, val := doubtV 2 now 0 un, born := 0 }] 1) := by rw [← hW4]; exact World.putObj_heap_same (Array.getElem?_eq_some_iff.1 hmb).1
  have hq4 : W4.cell? ⟨d, 0, none⟩ = some (.map (some b)) := (World.cell?_of_block (w := X) (hm4 d (Ne.symm hbd))).trans hqo
  have hf4 : W4.frozen? ⟨d, 0, none⟩ = false := (World.frozen?_of_block (w := X) (hm4 d (Ne.symm hbd))).trans hfo
  have hmod4 : Mod [d] w W4 := by
    have h3 : Mod [b] X W4 := by rw [← hW4]; exact ⟨rfl, rfl, rfl, by simp, fun k _ hk => World.putObj_heap_other (by simpa using hk)⟩
    have h2 := HM7.out.1.wide (T := [d]) (by simp)
    have hsz := HM7.out.1.size
    exact (h2.trans HM7.out.2).step h3 (fun k hk => .inr (by simp at hk; omega))
  have hwb : w.heap.size ≤ b := by have := HM7.out.1.size; omega
  have H4 := Lib.hid (And.intro (And.intro hob4 hq4) (And.intro hf4 (And.intro hmod4 hwb)))
  clear hob4 hq4 hf4 hmod4 hm4 hW4
  unfold doubtV at hup
  clear hch fq ff f0 hmm hbo
  simp only at k0 k1 k2
  go_region
  go_wp2
  go_ret2
  exact ⟨rfl, ⟨b, H4.out.1.2, H4.out.1.1, H4.out.2.2.2⟩, H4.out.2.1, H4.out.2.2.1⟩

end Go.Proofs.YtpbamamplmbgjaaGreatDoor
