/-
  TopKnown: ping, answer, acked.
  TopKnown: rows of notes and of watches: append to none.
-/
import Derived.Test.YtaaaiggbnkeblaaGreatDoorMKnM
namespace Go.Proofs.YtaaaiggbnkeblaaGreatDoor
set_option linter.unusedSimpArgs false
set_option linter.unusedVariables false
open Go.RowKit

/-- The number of its pings is another one. -/
theorem KS.At.pinged {K : KS} {w : World} {G : List Nat} {n : Nat} (h : K.At w G n) (s : Int) : ({ K with s := s } : KS).At (w.setCell ⟨K.d, 7, none⟩ (.int .u64 s)) G n := by
  have hm : Mod [K.d] w (w.setCell ⟨K.d, 7, none⟩ (.int .u64 s)) := (Mod.refl _ _).setCell (.inl (by simp)) _
  have hr : K.r ∉ [K.d] := by simpa using h.ne.1.symm
  have hb : K.b ∉ [K.d] := by simpa using h.ne.2.1.symm
  have c : ∀ j v, j ≠ 7 → w.cell? ⟨K.d, j, none⟩ = some v → (w.setCell ⟨K.d, 7, none⟩ (.int .u64 s)).cell? ⟨K.d, j, none⟩ = some v := fun j v hj hc => (cell_set_off _ _ _ _ (by simp; exact fun e => hj e.symm)).trans hc
  refine ⟨c 0 _ (by decide) h.roll, ?_, c 2 _ (by decide) h.me, c 3 _ (by decide) h.rum, c 4 _ (by decide) h.dou, c 5 _ (by decide) h.wat, c 6 _ (by decide) h.err, cell_set_same h.seq, c 8 _ (by decide) h.now, c 9 _ (by decide) h.gone, fun j => (World.frozen?_setCell _ _ _ _).trans (h.free j), h.calm.mod hm hr, h.q.kept hm hb, h.len, h.ne, h.inG, fun g hg => Nat.lt_of_lt_of_le (h.lo g hg) hm.size⟩
  obtain ⟨a, cc, h1, h2, h3, h4, h5, h6, h7⟩ := h.left
  refine ⟨a, cc, c 1 _ (by decide) h1, (World.frozen?_setCell _ _ _ _).trans h2, h3, h4, h5, Nat.lt_of_lt_of_le h6 hm.size, fun hne => ?_⟩
  obtain ⟨g, off, ha, hg, hlt, hc⟩ := h7 hne
  exact ⟨g, off, ha, hg, Nat.lt_of_lt_of_le hlt hm.size, fun j x hj => (hm.cell hlt (by simp; exact fun e => hg (by rw [e]; exact h.inG.1))).trans (hc j x hj)⟩
/-- Its watches are others. -/
theorem KS.At.watched {K : KS} {w : World} {G : List Nat} {n : Nat} (h : K.At w G n) (W : Value) : ({ K with W := W } : KS).At (w.setCell ⟨K.d, 5, none⟩ W) G n := by
  have hm : Mod [K.d] w (w.setCell ⟨K.d, 5, none⟩ W) := (Mod.refl _ _).setCell (.inl (by simp)) _
  have hr : K.r ∉ [K.d] := by simpa using h.ne.1.symm
  have hb : K.b ∉ [K.d] := by simpa using h.ne.2.1.symm
  have c : ∀ j v, j ≠ 5 → w.cell? ⟨K.d, j, none⟩ = some v → (w.setCell ⟨K.d, 5, none⟩ W).cell? ⟨K.d, j, none⟩ = some v := fun j v hj hc => (cell_set_off _ _ _ _ (by simp; exact fun e => hj e.symm)).trans hc
  refine ⟨c 0 _ (by decide) h.roll, ?_, c 2 _ (by decide) h.me, c 3 _ (by decide) h.rum, c 4 _ (by decide) h.dou, cell_set_same h.wat, c 6 _ (by decide) h.err, c 7 _ (by decide) h.seq, c 8 _ (by decide) h.now, c 9 _ (by decide) h.gone, fun j => (World.frozen?_setCell _ _ _ _).trans (h.free j), h.calm.mod hm hr, h.q.kept hm hb, h.len, h.ne, h.inG, fun g hg => Nat.lt_of_lt_of_le (h.lo g hg) hm.size⟩
  obtain ⟨a, cc, h1, h2, h3, h4, h5, h6, h7⟩ := h.left
  refine ⟨a, cc, c 1 _ (by decide) h1, (World.frozen?_setCell _ _ _ _).trans h2, h3, h4, h5, Nat.lt_of_lt_of_le h6 hm.size, fun hne => ?_⟩
  obtain ⟨g, off, ha, hg, hlt, hc⟩ := h7 hne
  exact ⟨g, off, ha, hg, Nat.lt_of_lt_of_le hlt hm.size, fun j x hj => (hm.cell hlt (by simp; exact fun e => hg (by rw [e]; exact h.inG.1))).trans (hc j x hj)⟩
/-- Its time is another one. -/
theorem KS.At.later {K : KS} {w : World} {G : List Nat} {n : Nat} (h : K.At w G n) (x : Int) : ({ K with x := x } : KS).At (w.setCell ⟨K.d, 8, none⟩ (.int .u64 x)) G n := by
  have hm : Mod [K.d] w (w.setCell ⟨K.d, 8, none⟩ (.int .u64 x)) := (Mod.refl _ _).setCell (.inl (by simp)) _
  have hr : K.r ∉ [K.d] := by simpa using h.ne.1.symm
  have hb : K.b ∉ [K.d] := by simpa using h.ne.2.1.symm
  have c : ∀ j v, j ≠ 8 → w.cell? ⟨K.d, j, none⟩ = some v → (w.setCell ⟨K.d, 8, none⟩ (.int .u64 x)).cell? ⟨K.d, j, none⟩ = some v := fun j v hj hc => (cell_set_off _ _ _ _ (by simp; exact fun e => hj e.symm)).trans hc
  refine ⟨c 0 _ (by decide) h.roll, ?_, c 2 _ (by decide) h.me, c 3 _ (by decide) h.rum, c 4 _ (by decide) h.dou, c 5 _ (by decide) h.wat, c 6 _ (by decide) h.err, c 7 _ (by decide) h.seq, cell_set_same h.now, c 9 _ (by decide) h.gone, fun j => (World.frozen?_setCell _ _ _ _).trans (h.free j), h.calm.mod hm hr, h.q.kept hm hb, h.len, h.ne, h.inG, fun g hg => Nat.lt_of_lt_of_le (h.lo g hg) hm.size⟩
  obtain ⟨a, cc, h1, h2, h3, h4, h5, h6, h7⟩ := h.left
  refine ⟨a, cc, c 1 _ (by decide) h1, (World.frozen?_setCell _ _ _ _).trans h2, h3, h4, h5, Nat.lt_of_lt_of_le h6 hm.size, fun hne => ?_⟩
  obtain ⟨g, off, ha, hg, hlt, hc⟩ := h7 hne
  exact ⟨g, off, ha, hg, Nat.lt_of_lt_of_le hlt hm.size, fun j x hj => (hm.cell hlt (by simp; exact fun e => hg (by rw [e]; exact h.inG.1))).trans (hc j x hj)⟩

set_option maxRecDepth 100000 in
set_option maxHeartbeats 4000000 in
theorem ping_is {K : KS} {w : World} {G : List Nat} {n : Nat} (h : K.At w G n) :
    Calls Tryz.prog 57 #[.pointer (some ⟨K.d, 0, none⟩)] w fun e w' => ∃ s, e = .returned (.int .u64 s) ∧ ({ K with s := s } : KS).At w' G n ∧ Mod [K.d] w w' := by
  have H := Lib.hid h.pinged
  have c7 := h.seq
  have f7 := h.free 7
  obtain ⟨d, hd⟩ : ∃ d, K.d = d := ⟨_, rfl⟩
  have HD := Lib.hid hd
  have hdl := h.lt
  obtain ⟨s0, hs0⟩ : ∃ s0, K.s = s0 := ⟨_, rfl⟩
  rw [hd] at c7 f7 hdl ⊢
  rw [hs0] at c7
  clear h hd hs0
  go_enter Tryz.func57, Tryz.ntmps57
  go_wp2
  go_ret
  refine ⟨_, rfl, ?_, (Mod.refl [d] w).setCell (.inl (by simp)) _⟩
  have := H.out (IntKind.u64.wrap (s0 + 1))
  rw [HD.out] at this
  exact this

set_option maxRecDepth 100000 in
set_option maxHeartbeats 4000000 in
/-- One note is answered. -/
theorem answer_is {K : KS} {w : World} {G : List Nat} {n t : Nat} (kd to' s fo : Int) (v : Value) (h : K.At w G n) (ht : Tab w) (hn : 2 ≤ n ∧ n ≤ 6) (hf : K.has = 2 ^ n - 1) (hme : K.me < n) (htn : t < n) (hv : ∃ a l c, v = .slice a l c) :
    Calls Tryz.prog 58 #[.pointer (some ⟨K.d, 0, none⟩), .agg #[.int .i64 kd, .int .i64 t, .int .i64 to', .int .u64 s, .int .i64 fo, v]] w fun e w' => ∃ (g : Nat) (v' : Value) (L : List Nat), e = .returned (.slice (some ⟨g, 0, none⟩) 1 1) ∧ KRow w' g [.int .i64 2, .int .i64 K.me, .int .i64 t, .int .u64 s, .int .i64 K.me, v'] ∧ w.heap.size ≤ g ∧ Upds w' w.heap.size v' (L.map calmU) ∧ 0 < L.length ∧ L.length ≤ 7 ∧ (∀ x ∈ L, x < n) ∧ K.At w' G n ∧ Mod [K.b] w w' := by
  obtain ⟨a, l, c, rfl⟩ := hv
  have hsay := fun w' (hm : Mod [] w w') => say_is 2 s K.me (h.same hm) (ht.mod hm (by simp)) hn hf hme htn
  have c2 := h.me
  have hdl := h.lt
  obtain ⟨d, hd⟩ : ∃ d, K.d = d := ⟨_, rfl⟩
  obtain ⟨me, hme0⟩ : ∃ me, K.me = me := ⟨_, rfl⟩
  unfold SayPost at hsay
  rw [hd] at c2 hdl
  simp only [hd, hme0] at hsay
  rw [hd]
  rw [hme0] at c2 ⊢
  have HS := Lib.hid hsay
  clear hsay h ht hf hme htn hd hme0
  go_enter Tryz.func58, Tryz.ntmps58
  go_wp2_with fail
  have HMw := Lib.hid ((Mod.refl [] w).alloc (.cells #[.int .i64 kd, .int .i64 t, .int .i64 to', .int .u64 s, .int .i64 fo, .slice a l c] 61))
  have HR := Lib.hid (KRow.of (heap_new w (.cells #[.int .i64 kd, .int .i64 t, .int .i64 to', .int .u64 s, .int .i64 fo, .slice a l c] 61)))
  obtain ⟨B, hB⟩ : ∃ B, w.heap.size = B := ⟨_, rfl⟩
  have HBW := Lib.hid hB
  rw [hB] at HR ⊢
  clear hB
  generalize w.alloc (.cells #[.int .i64 kd, .int .i64 t, .int .i64 to', .int .u64 s, .int .i64 fo, .slice a l c] 61) = W0 at HMw HR ⊢
  have x1 := HR.out.cell 1 _ rfl
  have x3 := HR.out.cell 3 _ rfl
  have k2 := HMw.out.at c2 (by simp)
  clear c2 hdl
  go_region_with (go_at_call 52; refine (HS.out _ HMw.out.drew).mono ?_; rintro e w5 ⟨v5, L5, rfl, h5⟩; have H5 := Lib.hid h5; clear h5)
  all_goals
    go_wp2_with fail
    go_ret
    obtain ⟨hU, h0, h7, hL, hA, hm⟩ := H5.out
    have hs := HMw.out.drew.size
    have hs5 := hm.size
    have ma := (Mod.refl [] w5).alloc (.cells #[.int .i64 2, .int .i64 me, .int .i64 t, .int .u64 s, .int .i64 me, v5] 61)
    exact ⟨_, v5, L5, rfl, KRow.of (heap_new _ _), by have := HBW.out; omega, ownsRow_base (ownsRow_mod hU ma (by simp)) (by have := HBW.out; omega), h0, h7, hL, hA.same ma, ((HMw.out.drew.wide (by simp)).trans hm).alloc _⟩

set_option maxRecDepth 100000 in
set_option maxHeartbeats 4000000 in
/-- The watch that is met is no more. -/
theorem acked_is {K : KS} {w : World} {G : List Nat} {n wb cw : Nat} (kd f to' s x : Int) (j : Nat) (v : Value) (h : K.At w G n) (hW : K.W = .slice (some ⟨wb, 0, none⟩) 1 cw) (hr : KRow w wb (watchV j s x)) (hc : 1 ≤ cw ∧ cw ≤ maxLen) (hwG : wb ∈ G) (hwb : K.d ≠ wb ∧ K.r ≠ wb ∧ K.b ≠ wb) (hv : ∃ a l c, v = .slice a l c) :
    Calls Tryz.prog 59 #[.pointer (some ⟨K.d, 0, none⟩), .agg #[.int .i64 kd, .int .i64 f, .int .i64 to', .int .u64 s, .int .i64 j, v]] w fun e w' => e = .returned (.slice none 0 0) ∧ ({ K with W := .slice (some ⟨wb, 0, none⟩) 0 cw } : KS).At w' G n ∧ Mod [K.d, wb] w w' := by
  have hmf : ∀ (fn : Fn) (first cap : Array Value) (w : World), (Instr.makeFunc fn first cap).run Tryz.prog w = .ok (.func fn first cap) w := fun _ _ _ _ => rfl
  obtain ⟨a, l, c, rfl⟩ := hv
  have H := Lib.hid h
  have HR := Lib.hid hr
  have HX := Lib.hid (And.intro hc (And.intro hwG hwb))
  have c5 := h.wat
  have c6 := h.err
  have f5 := h.free 5
  rw [hW] at c5
  have hdl := h.lt
  have hwl := hr.lt
  obtain ⟨d, hd⟩ : ∃ d, K.d = d := ⟨_, rfl⟩
  have HD := Lib.hid hd
  rw [hd] at c5 c6 f5 hdl ⊢
  clear h hr hc hwG hwb hd
  go_enter Tryz.func59, Tryz.ntmps59
  go_upto_region 1 with fail
  have HMw := Lib.hid ((Mod.refl [] w).alloc (.cells #[.int .i64 kd, .int .i64 f, .int .i64 to', .int .u64 s, .int .i64 j, .slice a l c] 61))
  have HN := Lib.hid (KRow.of (heap_new w (.cells #[.int .i64 kd, .int .i64 f, .int .i64 to', .int .u64 s, .int .i64 j, .slice a l c] 61)))
  generalize hB : w.heap.size = B at HN ⊢
  generalize w.alloc (.cells #[.int .i64 kd, .int .i64 f, .int .i64 to', .int .u64 s, .int .i64 j, .slice a l c] 61) = W0 at HMw HN ⊢
  replace c5 := HMw.out.at c5 (by simp)
  replace c6 := HMw.out.at c6 (by simp)
  replace f5 := (HMw.out.frozen (p := ⟨d, 5, none⟩) hdl (by simp)).trans f5
  have x3 := HN.out.cell 3 _ rfl
  have x4 := HN.out.cell 4 _ rfl
  go_wp2_with fail
  refine (eindex_nil _ _).mono ?_
  rintro e w1 ⟨rfl, rfl⟩
  go_wp2_with fail
  refine (wdelete_one B wb cw j s x _ x3 x4 (HR.out.same HMw.out) HX.out.1).mono ?_
  rintro e w2 ⟨rfl, hM2⟩
  have hdw : d ∉ [wb] := by rw [← HD.out]; simpa using HX.out.2.2.1
  have d5 := hM2.at c5 hdw
  have df5 := (hM2.frozen (p := ⟨d, 5, none⟩) (block_lt_of_cell c5) hdw).trans f5
  have HM2 := Lib.hid hM2
  clear hM2 c5 c6 f5 x3 x4
  go_wp2
  go_ret
  have hA := (H.out.same HMw.out).mod HM2.out (by simpa using HX.out.2.1) (by simpa using HX.out.2.2.1) (by simpa using HX.out.2.2.2.1) (by simpa using HX.out.2.2.2.2)
  have hA2 := hA.watched (.slice (some ⟨wb, 0, none⟩) 0 cw)
  rw [HD.out] at hA2
  exact ⟨rfl, hA2, ((HMw.out.wide (T := [d, wb]) (by simp)).trans (HM2.out.wide (by simp))).setCell (.inl (by simp)) _⟩

end Go.Proofs.YtaaaiggbnkeblaaGreatDoor

namespace Go.Proofs.YtaaaiggbnkeblaaGreatDoor
set_option linter.unusedSimpArgs false
set_option linter.unusedVariables false
open Go.RowKit

theorem infoNote : ∃ i, Tryz.prog.info? 61 = some i ∧ i.zero = some (.agg #[.int .i64 0, .int .i64 0, .int .i64 0, .int .u64 0, .int .i64 0, .slice none 0 0]) ∧ i.size = 6 ∧ i.bytes ≤ 64 := by
  have h : (Tryz.prog.info? 61).map (fun i => (i.zero, i.size, decide (i.bytes ≤ 64))) = some (some (.agg #[.int .i64 0, .int .i64 0, .int .i64 0, .int .u64 0, .int .i64 0, .slice none 0 0]), 6, true) := by kernel_rfl
  cases hi : Tryz.prog.info? 61 with
  | none => rw [hi] at h; cases h
  | some i =>
    rw [hi] at h
    simp at h
    exact ⟨i, rfl, h.1, h.2.1, h.2.2⟩
theorem infoWatch : ∃ i, Tryz.prog.info? 127 = some i ∧ i.zero = some (.agg #[.int .i64 0, .int .u64 0, .int .u64 0, .bool false]) ∧ i.size = 4 ∧ i.bytes ≤ 64 := by
  have h : (Tryz.prog.info? 127).map (fun i => (i.zero, i.size, decide (i.bytes ≤ 64))) = some (some (.agg #[.int .i64 0, .int .u64 0, .int .u64 0, .bool false]), 4, true) := by kernel_rfl
  cases hi : Tryz.prog.info? 127 with
  | none => rw [hi] at h; cases h
  | some i =>
    rw [hi] at h
    simp at h
    exact ⟨i, rfl, h.1, h.2.1, h.2.2⟩
theorem KRow.own {w : World} {B n size g cap : Nat} {e : TypeId} {xs : List Value} (h : w.ownsRow B e size (.slice (some ⟨g, 0, none⟩) n cap) n xs) : KRow w g xs := by
  rcases h.2 with ⟨h0, _⟩ | ⟨g', cap', cur, h0, _, hg, _⟩
  · cases h0
  · cases h0
    exact ⟨ownsRow_cells h, fun j => free_in hg, (Array.getElem?_eq_some_iff.1 hg).1⟩
theorem own_empty {w : World} {g size : Nat} {e : TypeId} (h : w.heap[g]? = some (.cells #[] e (0, 0))) (B : Nat) (hB : B ≤ g) : w.ownsRow B e size (.slice (some ⟨g, 0, none⟩) 0 0) 0 [] :=
  ⟨by simp, .inr ⟨g, 0, _, rfl, hB, h, Nat.le_refl _, by decide, by simp, by simp⟩⟩

theorem own_cap {w : World} {B n size g c : Nat} {e : TypeId} {xs : List Value} (h : w.ownsRow B e size (.slice (some ⟨g, 0, none⟩) n c) n xs) : n ≤ c ∧ c ≤ maxLen := by
  rcases h.2 with ⟨h0, _⟩ | ⟨g', cap', cur, h0, _, _, hn, hc, _⟩
  · cases h0
  · cases h0
    exact ⟨hn, hc⟩

/-- Notes behind none. -/
theorem notes_push (w : World) (B : Nat) (v : Value) (h : w.ownsRow B 61 6 v 0 []) (a : Addr) (m c : Nat) (hm : m ≤ 100) (xs : List Value) (hl : xs.length = m * 6) (hx : ∀ j u, xs[j]? = some u → w.cell? (a.add j) = some u) (h1 : ∀ u ∈ xs, u.oneCell' = true) (hB : B ≤ w.heap.size) :
    ∃ v' w', (Builtin.append_ #[58, 58] 58 #[v, .slice (some a) m c]).run Tryz.prog w = .ok v' w' ∧ w'.ownsRow B 61 6 v' m xs ∧ w.grownBy w' v.ownBlock ∧ (v' = .slice none 0 0 ↔ v = .slice none 0 0 ∧ m = 0) := by
  obtain ⟨i, hi, hz, hs, hb⟩ := infoNote
  have hby : (0 + m) * i.bytes ≤ 140737488355328 := by
    have := Nat.mul_le_mul (show 0 + m ≤ 100 by omega) hb
    omega
  obtain ⟨v', w', hr, h2, h3, h4, _⟩ := run_append_own_at (P := Tryz.prog) w B 58 58 61 i _ 6 i.bytes Tryz.underlying58 hi hz hs rfl rfl (by decide) v 0 [] h a m c xs hl hx h1 (by unfold maxLen; omega) hby hB
  rw [Nat.zero_add, List.nil_append] at h2
  exact ⟨v', w', hr, h2, h3, h4⟩
theorem notes_first (w : World) (g0 c0 : Nat) (xs : List Value) (hl : xs.length = 6) (hx : KRow w g0 xs) (h1 : ∀ u ∈ xs, u.oneCell' = true) :
    ∃ g c w', (Builtin.append_ #[58, 58] 58 #[.slice none 0 0, .slice (some ⟨g0, 0, none⟩) 1 c0]).run Tryz.prog w = .ok (.slice (some ⟨g, 0, none⟩) 1 c) w' ∧ KRow w' g xs ∧ w.heap.size ≤ g ∧ (1 ≤ c ∧ c ≤ maxLen) ∧ Mod [] w w' := by
  obtain ⟨v', w', hr, h2, h3, _⟩ := notes_push w w.heap.size (.slice none 0 0) ⟨rfl, .inl ⟨rfl, rfl⟩⟩ ⟨g0, 0, none⟩ 1 c0 (by omega) xs (by omega) (fun j u hu => by rw [add_lit, Nat.zero_add]; exact hx.cell j u hu) h1 (Nat.le_refl _)
  obtain ⟨g, c, rfl, _, _⟩ := h2.form (by omega)
  exact ⟨g, c, w', hr, KRow.own h2, (ownsRow_ge h2 g rfl).1, own_cap h2, (Mod.refl [] w).grown_none h3⟩
theorem watch_first (w : World) (g0 c0 : Nat) (xs : List Value) (hl : xs.length = 4) (hx : KRow w g0 xs) (h1 : ∀ u ∈ xs, u.oneCell' = true) :
    ∃ g c w', (Builtin.append_ #[76, 76] 76 #[.slice none 0 0, .slice (some ⟨g0, 0, none⟩) 1 c0]).run Tryz.prog w = .ok (.slice (some ⟨g, 0, none⟩) 1 c) w' ∧ KRow w' g xs ∧ w.heap.size ≤ g ∧ (1 ≤ c ∧ c ≤ maxLen) ∧ Mod [] w w' := by
  obtain ⟨i, hi, hz, hs, hb⟩ := infoWatch
  obtain ⟨v', w', hr, h2, h3, h4, _⟩ := run_append_own_at (P := Tryz.prog) w w.heap.size 76 76 127 i _ 4 i.bytes Tryz.underlying76 hi hz hs rfl rfl (by decide) (.slice none 0 0) 0 [] ⟨rfl, .inl ⟨rfl, rfl⟩⟩ ⟨g0, 0, none⟩ 1 c0 xs (by omega) (fun j u hu => by rw [add_lit, Nat.zero_add]; exact hx.cell j u hu) h1 (by unfold maxLen; omega) (by omega) (Nat.le_refl _)
  obtain ⟨g, c, rfl, hc1, hc2⟩ := h2.form (by omega)
  refine ⟨g, c, w', hr, ?_, (ownsRow_ge h2 g rfl).1, ?_, (Mod.refl [] w).grown_none h3⟩
  · have := KRow.own h2
    rw [List.nil_append] at this
    exact this
  · rcases h2.2 with ⟨h0, _⟩ | ⟨g', cap', cur, h0, _, _, hn, hc, _⟩
    · cases h0
    · cases h0
      exact ⟨by omega, hc⟩

end Go.Proofs.YtaaaiggbnkeblaaGreatDoor
