/-
  TopKnown: rows of cells; many; a note that is said.
  TopKnown: slices.DeleteFunc at one watch that is met.
-/
import Derived.Test.YtaaaiggbnkeblaaGreatDoorMKnH
import Derived.Deep.RegionLaw
import Derived.Lib.SliceRun
namespace Go.Proofs.YtaaaiggbnkeblaaGreatDoor
set_option linter.unusedSimpArgs false
set_option linter.unusedVariables false
open Go.RowKit

theorem KS.At.rum3 {K : KS} {w : World} {G : List Nat} {n d b : Nat} (h : K.At w G n) (hd : K.d = d) (hb : K.b = b) : w.cell? ⟨d, 3, none⟩ = some (.map (some b)) := by rw [← hd, ← hb]; exact h.rum
/-- A block: these cells, none frozen. -/
structure KRow (w : World) (g : Nat) (xs : List Value) : Prop where
  cell : ∀ j v, xs[j]? = some v → w.cell? ⟨g, j, none⟩ = some v
  free : ∀ j, w.frozen? ⟨g, j, none⟩ = false
  lt : g < w.heap.size
theorem KRow.mod {S : List Nat} {w w' : World} {g : Nat} {xs : List Value} (h : KRow w g xs) (hm : Mod S w w') (hg : g ∉ S) : KRow w' g xs :=
  ⟨fun j v hv => hm.at (h.cell j v hv) hg, fun j => (hm.frozen (p := ⟨g, j, none⟩) h.lt hg).trans (h.free j), Nat.lt_of_lt_of_le h.lt hm.size⟩
theorem KRow.same {w w' : World} {g : Nat} {xs : List Value} (h : KRow w g xs) (hm : Mod [] w w') : KRow w' g xs := h.mod hm (by simp)
theorem KRow.of {w : World} {g : Nat} {a : Array Value} {t : TypeId} (h : w.heap[g]? = some (.cells a t (0, 0))) : KRow w g a.toList :=
  ⟨fun j v hv => cell_in h (by simpa using hv), fun j => free_in h, (Array.getElem?_eq_some_iff.1 h).1⟩
theorem KRow.set {w : World} {g : Nat} {xs : List Value} (h : KRow w g xs) (j : Nat) (v : Value) (hj : j < xs.length) : KRow (w.setCell ⟨g, j, none⟩ v) g (xs.set j v) := by
  refine ⟨fun i u hu => ?_, fun i => (World.frozen?_setCell _ _ _ _).trans (h.free i), by simpa [World.setCell] using h.lt⟩
  by_cases e : i = j
  · subst e
    rw [List.getElem?_set_self hj] at hu
    cases hu
    exact cell_set_same (h.cell i xs[i] (by simp))
  · rw [List.getElem?_set_ne (fun e' => e e'.symm)] at hu
    exact (cell_set_off _ _ _ _ (by simp; exact fun e' => e e'.symm)).trans (h.cell i u hu)

theorem rows2 (w : World) (a b : Array Value) (ta tb : TypeId) (W0 : World) (hW : (w.alloc (.cells a ta)).alloc (.cells b tb) = W0) :
    KRow W0 w.heap.size a.toList ∧ KRow W0 (w.heap.size + 1) b.toList ∧ Mod [] w W0 ∧ W0.heap.size = w.heap.size + 1 + 1 := by
  subst hW
  have ha := (KRow.of (heap_new w (.cells a ta))).same ((Mod.refl [] _).alloc (.cells b tb))
  have hb := KRow.of (heap_new (w.alloc (.cells a ta)) (.cells b tb))
  simp only [World.alloc, Array.size_push] at hb
  exact ⟨ha, hb, ((Mod.refl [] w).alloc _).alloc _, by simp⟩
theorem rows4 (w : World) (a b c e : Array Value) (ta tb tc te : TypeId) (W0 : World) (hW : (((w.alloc (.cells a ta)).alloc (.cells b tb)).alloc (.cells c tc)).alloc (.cells e te) = W0) :
    (KRow W0 w.heap.size a.toList ∧ KRow W0 (w.heap.size + 1) b.toList) ∧ (KRow W0 (w.heap.size + 1 + 1) c.toList ∧ KRow W0 (w.heap.size + 1 + 1 + 1) e.toList) ∧ Mod [] w W0 ∧ W0.heap.size = w.heap.size + 1 + 1 + 1 + 1 := by
  obtain ⟨h1, h2, h3, h4⟩ := rows2 w a b ta tb _ rfl
  obtain ⟨k1, k2, k3, k4⟩ := rows2 ((w.alloc (.cells a ta)).alloc (.cells b tb)) c e tc te W0 hW
  rw [h4] at k1 k2 k4
  exact ⟨⟨h1.same k3, h2.same k3⟩, ⟨k1, k2⟩, h3.trans k3, k4⟩

theorem upds_one {w : World} {g k B : Nat} (h : w.heap[g]? = some (.cells #[.int .i64 k, .int .u64 0, .int .i64 0] 55 (0, 0))) (hB : B ≤ g) : Upds w B (.slice (some ⟨g, 0, none⟩) 1 1) [calmU k] :=
  ⟨rfl, .inr ⟨g, 1, _, rfl, hB, h, Nat.le_refl _, by decide, rfl, rfl⟩⟩

/-- Updates behind updates of one's own. -/
theorem upds_more (w : World) (B B2 : Nat) (v y : Value) (L M : List Nat) (h : Upds w B v (L.map calmU)) (hl : 0 < L.length ∧ L.length ≤ 100) (hy : Upds w B2 y (M.map calmU)) (hM : M.length ≤ 100) (hB : B ≤ w.heap.size) :
    ∃ g m c w', m = L.length + M.length ∧ (Builtin.append_ #[37, 37] 37 #[v, y]).run Tryz.prog w = .ok (.slice (some ⟨g, 0, none⟩) m c) w' ∧ Upds w' B (.slice (some ⟨g, 0, none⟩) m c) ((L ++ M).map calmU) ∧ w.grownBy w' v.ownBlock := by
  obtain ⟨i, hi, hz, hs, hb⟩ := infoUpd
  have hll : (L.map calmU).length = L.length := List.length_map _
  have hml : (M.map calmU).length = M.length := List.length_map _
  have hul : ((L ++ M).map calmU).length = L.length + M.length := by simp
  have huf : uflat ((L ++ M).map calmU) = uflat (L.map calmU) ++ uflat (M.map calmU) := by simp [uflat]
  have hby : (L.length + M.length) * i.bytes ≤ 140737488355328 := by
    have := Nat.mul_le_mul (show L.length + M.length ≤ 200 by omega) hb
    omega
  have h' : w.ownsRow B 55 3 v L.length (uflat (L.map calmU)) := by
    have h0 := h
    unfold Upds at h0
    rw [hll] at h0
    exact h0
  have hy' : w.ownsRow B2 55 3 y M.length (uflat (M.map calmU)) := by
    have h0 := hy
    unfold Upds at h0
    rw [hml] at h0
    exact h0
  rcases hy'.2 with ⟨rfl, h0⟩ | ⟨g2, cap2, cur2, rfl, hrest⟩
  · obtain ⟨g, cap, rfl, _, _⟩ := h'.form hl.1
    have hM0 : M = [] := List.eq_nil_of_length_eq_zero h0
    subst hM0
    refine ⟨g, L.length, cap, w, by simp, run_append_owned_none w B 37 37 55 i 3 Tryz.underlying37 hi _ _ _ h', ?_, ⟨rfl, rfl, rfl, Nat.le_refl _, fun _ _ _ => rfl⟩⟩
    rw [List.append_nil]
    exact h
  · have hnews : ∀ j x, (uflat (M.map calmU))[j]? = some x → w.cell? ((⟨g2, 0, none⟩ : Addr).add j) = some x := fun j x hj => by
      rw [add_lit, Nat.zero_add]
      exact ownsRow_cells hy' j x hj
    have hone : ∀ u ∈ uflat (M.map calmU), u.oneCell' = true := by
      intro u hu
      simp only [uflat, List.mem_flatMap, List.mem_map] at hu
      obtain ⟨q, ⟨k, _, rfl⟩, hq⟩ := hu
      simp only [ucells, List.mem_cons, List.not_mem_nil, or_false] at hq
      rcases hq with rfl | rfl | rfl <;> rfl
    obtain ⟨v', w', hr, h2, h3, _, _⟩ := run_append_own_at (P := Tryz.prog) w B 37 37 55 i _ 3 i.bytes Tryz.underlying37 hi hz hs rfl rfl (by decide) v L.length _ h' ⟨g2, 0, none⟩ M.length cap2 (uflat (M.map calmU)) hy'.1 hnews hone (by unfold maxLen; omega) hby hB
    obtain ⟨g, cap, rfl, _, _⟩ := h2.form (by omega)
    refine ⟨g, L.length + M.length, cap, w', rfl, hr, ?_, h3⟩
    unfold Upds
    rw [hul, huf]
    exact h2
set_option maxRecDepth 100000 in
set_option maxHeartbeats 4000000 in
theorem kmany {K : KS} {w : World} {G : List Nat} {n : Nat} (h : K.At w G n) (ht : Tab w) (hn : 2 ≤ n ∧ n ≤ 6) (hf : K.has = 2 ^ n - 1) :
    Calls Tryz.prog 107 #[.pointer (some ⟨K.d, 0, none⟩)] w fun e w' => e = .returned (.int .i64 n) ∧ Mod [] w w' := by
  have c0 := h.roll
  have hl := clive_is h.calm ht
  rw [hf] at hl
  obtain ⟨d, hd⟩ : ∃ d, K.d = d := ⟨_, rfl⟩
  obtain ⟨r, hr⟩ : ∃ r, K.r = r := ⟨_, rfl⟩
  rw [hd, hr] at c0
  rw [hr] at hl
  rw [hd]
  have HL := Lib.hid hl
  clear hl h ht hf hd hr
  go_enter Tryz.func107, Tryz.ntmps107
  go_wp2_with fail
  refine HL.out.mono ?_
  rintro e w1 ⟨rfl, hM⟩
  have HM := Lib.hid hM
  clear hM
  go_wp2_with fail
  refine (many_full n hn _).mono ?_
  rintro e w2 ⟨rfl, rfl⟩
  go_wp2_with fail
  go_ret
  exact ⟨rfl, HM.out⟩

/-- Knows all of n. -/
theorem KS.knows_full {K : KS} {n k : Nat} (hn : 2 ≤ n ∧ n ≤ 6) (hf : K.has = 2 ^ n - 1) (hk : k < n) : K.knows k := by
  unfold KS.knows
  rw [hf]
  exact (full_facts n k hn hk).1

def SayPost (K : KS) (G : List Nat) (n t : Nat) (kd s fo : Int) (w : World) (e : Ending) (w' : World) : Prop :=
  ∃ (v : Value) (L : List Nat), e = .returned (.agg #[.int .i64 kd, .int .i64 K.me, .int .i64 t, .int .u64 s, .int .i64 fo, v]) ∧ Upds w' w.heap.size v (L.map calmU) ∧ 0 < L.length ∧ L.length ≤ 7 ∧ (∀ x ∈ L, x < n) ∧ K.At w' G n ∧ Mod [K.b] w w'

def SayRel1 (W0 : World) (B me t : Nat) (kd s fo : Int) (wx : World) : Prop := ∃ g0, KRow wx B [.int .i64 kd, .int .i64 me, .int .i64 t, .int .u64 s, .int .i64 fo, .slice (some ⟨g0, 0, none⟩) 1 1] ∧ wx.heap[g0]? = some (.cells #[.int .i64 me, .int .u64 0, .int .i64 0] 55 (0, 0)) ∧ W0.heap.size ≤ g0 ∧ Mod [B] W0 wx
theorem say_cut1 {W0 w5 : World} {B me t : Nat} {kd s fo : Int} (h : KRow W0 B [.int .i64 kd, .int .i64 0, .int .i64 t, .int .u64 s, .int .i64 fo, .slice none 0 0]) (hm : Mod [] W0 w5) : SayRel1 W0 B me t kd s fo (((w5.setCell ⟨B, 1, none⟩ (.int .i64 me)).setCell ⟨B, 5, none⟩ (.slice (some ⟨w5.heap.size, 0, none⟩) 1 1)).alloc (.cells #[.int .i64 me, .int .u64 0, .int .i64 0] 55)) := by
  have h5 := h.same hm
  have hn := heap_new ((w5.setCell ⟨B, 1, none⟩ (.int .i64 me)).setCell ⟨B, 5, none⟩ (.slice (some ⟨w5.heap.size, 0, none⟩) 1 1)) (.cells #[.int .i64 me, .int .u64 0, .int .i64 0] 55)
  have hs : ((w5.setCell ⟨B, 1, none⟩ (.int .i64 me)).setCell ⟨B, 5, none⟩ (.slice (some ⟨w5.heap.size, 0, none⟩) 1 1)).heap.size = w5.heap.size := by simp [World.setCell]
  rw [hs] at hn
  exact ⟨w5.heap.size, ((h5.set 1 _ (by simp)).set 5 _ (by simp)).same ((Mod.refl [] _).alloc _), hn, hm.size, (((hm.wide (by simp)).setCell (.inl (by simp)) _).setCell (.inl (by simp)) _).alloc _⟩

/-- At a step of a region that draws its order: an append whose run is known. -/
theorem kstep_append_run {P : Program} {w : World} {ops : Array Oper} {o : Oper} {a : Act} {K : Act → World → Prop} {Q : Exit → Act → World → Prop} {E : Prop} (hgd : o.guard = none) (s x : Operand) (t : TypeId)
    (ho : o.op = .call { callee := .builtin .append, args := #[s, x], argTypes := #[t, t] }) (v y v' : Value) (w' : World) (hs : a.eval s = v) (hx : a.eval x = y) (hr : (Builtin.append_ #[t, t] o.type #[v, y]).run P w = .ok v' w') (h : K (a.put o.dst v') w') :
    if Region.wanted o (yielded ops a.tmps) = true then Oper.wp P o a w K Q else E :=
  stepk_append_run hgd s x t ho v y v' w' hs hx hr h
def zNote : List Value := [.int .i64 0, .int .i64 0, .int .i64 0, .int .u64 0, .int .i64 0, .slice none 0 0]
def SayRel5 (K : KS) (G : List Nat) (n : Nat) (w : World) (B me t : Nat) (kd s fo : Int) (wx : World) : Prop := ∃ (gl m c : Nat) (L : List Nat), KRow wx B [.int .i64 kd, .int .i64 me, .int .i64 t, .int .u64 s, .int .i64 fo, .slice (some ⟨gl, 0, none⟩) m c] ∧ Upds wx w.heap.size (.slice (some ⟨gl, 0, none⟩) m c) (L.map calmU) ∧ (0 < L.length ∧ L.length ≤ 7) ∧ (∀ x ∈ L, x < n) ∧ K.At wx G n ∧ Mod [K.b] w wx ∧ KRow wx (B + 1) zNote ∧ gl ≠ B + 1
theorem say_cut5 {K : KS} {G : List Nat} {n : Nat} {w w8 : World} {B me t gl m c : Nat} {kd s fo : Int} {u : Value} {L : List Nat} (h : KRow w8 B [.int .i64 kd, .int .i64 me, .int .i64 t, .int .u64 s, .int .i64 fo, u]) (hU : Upds w8 w.heap.size (.slice (some ⟨gl, 0, none⟩) m c) (L.map calmU)) (hl : 0 < L.length ∧ L.length ≤ 7) (hL : ∀ x ∈ L, x < n) (hA : K.At w G n) (hq : QMap w8 K.b n) (hm : Mod [K.b] w w8) (hB : w.heap.size ≤ B) (hgB : gl ≠ B) (hz : KRow w8 (B + 1) zNote) (hgB1 : gl ≠ B + 1) : SayRel5 K G n w B me t kd s fo (w8.setCell ⟨B, 5, none⟩ (.slice (some ⟨gl, 0, none⟩) m c)) := by
  have hs : Mod [B] w8 (w8.setCell ⟨B, 5, none⟩ (.slice (some ⟨gl, 0, none⟩) m c)) := (Mod.refl _ _).setCell (.inl (by simp)) _
  have hm' := hm.step hs (fun x hx => .inr (by simp at hx; omega))
  have hb : K.b ∉ [B] := by
    have := hA.lo _ hA.inG.2.2
    simp
    omega
  exact ⟨gl, m, c, L, h.set 5 _ (by simp), ownsRow_mod hU hs (by simp [Value.ownBlock]; exact hgB), hl, hL, hA.rumored hm' (hq.kept hs hb), hm', hz.mod hs (by simp), hgB1⟩

theorem say_take {K : KS} {G : List Nat} {n : Nat} {w wc w6 w7 : World} {B g0 me t : Nat} {kd s fo : Int} {v7 : Value} {L7 : List Nat} (hB : w.heap.size = B) (hg : w.heap.size ≤ g0) (h : KRow wc B [.int .i64 kd, .int .i64 me, .int .i64 t, .int .u64 s, .int .i64 fo, .slice (some ⟨g0, 0, none⟩) 1 1]) (hz : KRow wc (B + 1) zNote) (hgB : B ≠ g0 ∧ B + 1 ≠ g0) (hh : wc.heap[g0]? = some (.cells #[.int .i64 me, .int .u64 0, .int .i64 0] 55 (0, 0))) (hA : K.At w G n) (hmw : Mod [] w wc) (hm6 : Mod [] wc w6)
    (hU : Upds w7 w6.heap.size v7 (L7.map calmU)) (hL : ∀ x ∈ L7, x < n) (hl : L7.length ≤ 6) (hq : QMap w7 K.b n) (hm7 : Mod [K.b] w6 w7) (hme : me < n) :
    ∃ g8 m8 c8 w8, KRow w7 B [.int .i64 kd, .int .i64 me, .int .i64 t, .int .u64 s, .int .i64 fo, .slice (some ⟨g0, 0, none⟩) 1 1] ∧ (Builtin.append_ #[37, 37] 37 #[.slice (some ⟨g0, 0, none⟩) 1 1, v7]).run Tryz.prog w7 = .ok (.slice (some ⟨g8, 0, none⟩) m8 c8) w8 ∧ KRow w8 B [.int .i64 kd, .int .i64 me, .int .i64 t, .int .u64 s, .int .i64 fo, .slice (some ⟨g0, 0, none⟩) 1 1] ∧ SayRel5 K G n w B me t kd s fo (w8.setCell ⟨B, 5, none⟩ (.slice (some ⟨g8, 0, none⟩) m8 c8)) := by
  have hbl : K.b < w.heap.size := hA.lo _ hA.inG.2.2
  have hm67 : Mod [K.b] wc w7 := (hm6.wide (by simp)).trans hm7
  have hg7 := row_mod hm67 hh (by simp; omega)
  have hg7l : g0 < w7.heap.size := (Array.getElem?_eq_some_iff.1 hg7).1
  obtain ⟨g8, m8, c8, w8, hm8, hrun, hU8, hgr⟩ := upds_more w7 g0 w6.heap.size _ v7 [me] L7 (upds_one hg7 (Nat.le_refl _)) (by simp) hU (by omega) (by omega)
  have hmg : Mod [g0] w7 w8 := by
    have := (Mod.refl [] w7).grownOwn hgr
    simpa [Value.ownBlock] using this
  have hm78 : Mod [K.b, g0] wc w8 := (hm67.wide (by simp)).trans (hmg.wide (by simp))
  have hr8 := h.mod hm78 (by simp; omega)
  have hz8 := hz.mod hm78 (by simp; omega)
  have hmw8 : Mod [K.b] w w8 := (((hmw.trans hm6).wide (by simp)).trans hm7).step hmg (fun x hx => .inr (by simp at hx; omega))
  have hge := (ownsRow_ge hU8 g8 rfl).1
  have hg8 : g8 ≠ B := by
    have := h.lt
    omega
  exact ⟨g8, m8, c8, w8, h.mod hm67 (by simp; omega), hrun, hr8, say_cut5 hr8 (ownsRow_base hU8 hg) ⟨by simp, by simp; omega⟩ (fun x hx => by
    simp at hx
    rcases hx with rfl | hx
    · exact hme
    · exact hL x hx) hA (hq.kept hmg (by simp; omega)) hmw8 (by omega) hg8 hz8 (by omega)⟩

set_option maxRecDepth 100000 in
set_option maxHeartbeats 8000000 in
theorem say_is {K : KS} {w : World} {G : List Nat} {n t : Nat} (kd s fo : Int) (h : K.At w G n) (ht : Tab w) (hn : 2 ≤ n ∧ n ≤ 6) (hf : K.has = 2 ^ n - 1) (hme : K.me < n) (htn : t < n) :
    Calls Tryz.prog 52 #[.pointer (some ⟨K.d, 0, none⟩), .agg #[.int .i64 kd, .int .i64 0, .int .i64 t, .int .u64 s, .int .i64 fo, .slice none 0 0]] w (SayPost K G n t kd s fo w) := by
  have HK := Lib.hid (And.intro hn (And.intro hf (And.intro hme htn)))
  have HLO := Lib.hid (fun g hg => h.lo g hg)
  have H := Lib.hid h
  have HT := Lib.hid ht
  have hdl := h.lt
  obtain ⟨d, hd⟩ : ∃ d, K.d = d := ⟨_, rfl⟩
  obtain ⟨r, hr⟩ : ∃ r, K.r = r := ⟨_, rfl⟩
  have HE := Lib.hid (And.intro hd hr)
  rw [hd] at hdl ⊢
  obtain ⟨me, hme0⟩ : ∃ me, K.me = me := ⟨_, rfl⟩
  have HME := Lib.hid hme0
  clear h ht hn hf hme htn hd hr hme0
  obtain ⟨W0, hW0⟩ : ∃ W0, (w.alloc (.cells #[.int .i64 kd, .int .i64 0, .int .i64 t, .int .u64 s, .int .i64 fo, .slice none 0 0] 61)).alloc (.cells #[.int .i64 0, .int .i64 0, .int .i64 0, .int .u64 0, .int .i64 0, .slice none 0 0] 61) = W0 := ⟨_, rfl⟩
  obtain ⟨hra, hrb, hm0, hs0⟩ := rows2 w _ _ _ _ W0 hW0
  have HM0 := Lib.hid hm0
  have HSZ := Lib.hid hs0
  go_enter Tryz.func52, Tryz.ntmps52
  go_wp2_with fail
  try rw [hW0]
  obtain ⟨B, hB⟩ : ∃ B, w.heap.size = B := ⟨_, rfl⟩
  rw [hB] at hra hrb ⊢
  have HB := Lib.hid hB
  have HRA := Lib.hid hra
  have HRB := Lib.hid hrb
  have HA0 := Lib.hid (H.out.same hm0)
  have HT0 := Lib.hid (HT.out.mod hm0 (by simp))
  have hmine := fun w' (hm : Mod [] W0 w') => kmine (HA0.out.same hm)
  have k2 := HA0.out.me
  have k0 := HA0.out.roll
  rw [HE.out.2, HME.out] at hmine
  rw [HE.out.1, HME.out] at k2
  rw [HE.out.1, HE.out.2] at k0
  have HMI := Lib.hid hmine
  have HK0 := Lib.hid (And.intro k0 k2)
  have x1 := hra.cell 1 _ rfl
  have x5 := hra.cell 5 _ rfl
  have f1 := hra.free 1
  have f5 := hra.free 5
  have bl : B < W0.heap.size := hra.lt
  have bn : ¬ B = W0.heap.size := by omega
  have dl : d < W0.heap.size := block_lt_of_cell k2
  have dn : ¬ d = W0.heap.size := by omega
  clear hra hrb hm0 hs0 hW0 hB hmine hdl
  go_cut [] (fun wx => SayRel1 W0 B me t kd s fo wx)
  case first =>
    -- <slow>
    go_region_with (go_at_call 47; refine (HMI.out _ (by repeat (first | exact (Mod.refl [] W0) | refine Mod.drew ?_ | refine Mod.alloc ?_ _))).mono ?_; rintro e w5 ⟨rfl, hM5⟩; have HM5 := Lib.hid (show Mod [] W0 w5 from Mod.trans (by repeat (first | exact (Mod.refl [] W0) | refine Mod.drew ?_ | refine Mod.alloc ?_ _)) hM5); have h5 := HRA.out.same HM5.out; have y1 := h5.cell 1 _ rfl; have y5 := h5.cell 5 _ rfl; have g1 := h5.free 1; have g5 := h5.free 5; have j2 := HM5.out.at HK0.out.2 (by simp); have b5l := h5.lt; have b5n : ¬ B = w5.heap.size := Nat.ne_of_lt b5l; have d5l : d < w5.heap.size := block_lt_of_cell j2; have d5n : ¬ d = w5.heap.size := Nat.ne_of_lt d5l; clear hM5 h5)
    all_goals
      go_wp2_with fail
      go_meet
      case rel => exact say_cut1 HRA.out HM5.out
    -- </slow>
  case rest =>
    obtain ⟨g0, hrow, hg0, hgs, hmc⟩ := hcut
    have hBw := HB.out
    have hmw : Mod [] w wc := HM0.out.step hmc (fun x hx => .inr (by simp at hx; omega))
    have HC := Lib.hid (And.intro hrow (And.intro hg0 (And.intro (Nat.le_trans HM0.out.size hgs) hmw)))
    have hgB : B ≠ g0 ∧ B + 1 ≠ g0 := by have := HRB.out.lt; omega
    have HZ1 := Lib.hid (HRB.out.mod hmc (by simp))
    have HGB := Lib.hid hgB
    have HA1 := Lib.hid (H.out.same hmw)
    have HT1 := Lib.hid (HT.out.mod hmw (by simp))
    have hget := fun w' (hm : Mod [] wc w') => kget (HA1.out.same hm) (show t < 6 by have := HK.out; omega) (K.knows_full HK.out.1 HK.out.2.1 HK.out.2.2.2)
    have k0 := HA1.out.roll
    rw [HE.out.2] at hget
    rw [HE.out.1, HE.out.2] at k0
    have HGE := Lib.hid hget
    have HC0 := Lib.hid k0
    have x2 := hrow.cell 2 _ rfl
    have bl : B < wc.heap.size := hrow.lt
    have bl1 : B < wc.heap.size + 1 := by omega
    have bn : ¬ B = wc.heap.size := by omega
    have dl : d < wc.heap.size := block_lt_of_cell k0
    have dl1 : d < wc.heap.size + 1 := by omega
    have dn : ¬ d = wc.heap.size := by omega
    clear HA0 HT0 HMI HK0 k2 hrow hg0 hgs hmc hmw hget hgB hBw x1 x5 f1 f5
    go_wp2_with fail
    go_cut [5, 6] (fun s5 s6 wx => s6 = .bool true ∧ ∃ g, s5 = .pointer (some ⟨g, 0, none⟩) ∧ UpK wx g t ∧ Mod [] wc wx)
    case first =>
      -- <slow>
      go_region_with (go_at_call 49; refine (HGE.out _ (by repeat (first | exact (Mod.refl [] wc) | refine Mod.drew ?_ | refine Mod.alloc ?_ _))).mono ?_; rintro e w6 ⟨rfl, hM6⟩; have HM6 := Lib.hid (show Mod [] wc w6 from Mod.trans (by repeat (first | exact (Mod.refl [] wc) | refine Mod.drew ?_ | refine Mod.alloc ?_ _)) hM6); have hc6 := HM6.out.at HC0.out (by simp); have hd6 := block_lt_of_cell hc6; have hn6 := Nat.ne_of_lt hd6; (try (have r6 := row_keep hM6 (heap_new_drew wc (.cells #[.int .i64 0, .int .u64 0, .int .i64 0] 55)); have r6z := zeros_of r6; have HR6 := Lib.hid r6z; unfold Zeros at r6z)); clear hM6)
      all_goals
        go_wp2_with fail
        go_meet
        case rel => first | exact ⟨rfl, _, rfl, upK_of (heap_new _ _), HM6.out.alloc _⟩ | exact ⟨rfl, _, rfl, upK_set t HR6.out, ((HM6.out.setCell (.inr (Nat.le_refl _)) _).setCell (.inr (Nat.le_refl _)) _).setCell (.inr (Nat.le_refl _)) _⟩
      -- </slow>
    case rest =>
      obtain ⟨rfl, g2, rfl, hz, hMd⟩ := hcut
      have HZ := Lib.hid hz
      have HMd := Lib.hid hMd
      have hrow := HC.out.1.same hMd
      have HRW := Lib.hid hrow
      unfold UpK at hz
      have x5 := hrow.cell 5 _ rfl
      have f5 := hrow.free 5
      clear x2 bl bl1 bn dl dl1 dn k0 hMd hrow HGE HC0
      go_wp2_with fail
      clear hz x5 f5
      have hmw : Mod [] w wc := HC.out.2.2.2.trans HMd.out
      have HA2 := Lib.hid (H.out.same hmw)
      have HT2 := Lib.hid (HT.out.mod hmw (by simp))
      have HMW := Lib.hid hmw
      have hmany := fun w' (hm : Mod [] wc w') => kmany (HA2.out.same hm) (HT2.out.mod hm (by simp)) HK.out.1 HK.out.2.1
      rw [HE.out.1] at hmany
      have HMY := Lib.hid hmany
      have x5 := HRW.out.cell 5 _ rfl
      have f5 := HRW.out.free 5
      have HH0 := Lib.hid (row_keep HMd.out HC.out.2.1)
      have HZ0 := Lib.hid (HZ1.out.same HMd.out)
      clear hmw hmany
      have hw7 : IntKind.i64.wrap 7 = 7 := by decide
      go_cut [] (fun wx => SayRel5 K G n w B me t kd s fo wx)
      case first =>
        -- <slow>
        go_region_law (first | (refine kstep_append_run rfl (.tmp 47) (.tmp 57) 37 rfl (.slice (some ⟨g0, 0, none⟩) 1 1) v7 (.slice (some ⟨g8, 0, none⟩) m8 c8) w8 rfl rfl HRUN.out ?_) | (go_simp; go_wp2_with (first | (go_at_call 107; refine (HMY.out _ (Mod.refl [] wc).drew).mono ?_; rintro e w6 ⟨rfl, hM6⟩; have HM6 := Lib.hid ((Mod.refl [] wc).drew.trans hM6); have y5 := (HRW.out.same HM6.out).cell 5 _ rfl; have g5 := (HRW.out.same HM6.out).free 5; clear hM6) | (go_at_call 106; (try rw [hw7]); refine (qtake_is d 3 K.b n n (by have := HK.out.1; omega) HK.out.1.2 _ ((HA2.out.same HM6.out).rum3 HE.out.1 rfl) (HA2.out.same HM6.out).q (HE.out.1 ▸ HA2.out.ne.2.1.symm) ((HA2.out.same HM6.out).lo _ HA2.out.inG.2.2)).mono ?_; rintro e w7 ⟨v7, L7, rfl, hU7, hL7, hl7, hq7, hM7⟩; have hs7 := say_take HB.out HC.out.2.2.1 HRW.out HZ0.out HGB.out HH0.out H.out HMW.out HM6.out hU7 hL7 hl7 hq7 hM7 (HME.out ▸ HK.out.2.2.1); obtain ⟨g8, m8, c8, w8, hrow7, hrun8, hrow8, hst8⟩ := hs7; have y7 := hrow7.cell 5 _ rfl; have g7 := hrow7.free 5; have HRUN := Lib.hid hrun8; have HST := Lib.hid hst8; have y5 := hrow8.cell 5 _ rfl; have g5 := hrow8.free 5; clear hU7 hL7 hl7 hq7 hM7 hrun8 hrow7 hrow8 hst8))))
        all_goals
          go_wp2_with fail
          go_meet
          case rel => exact HST.out
        -- </slow>
      case rest =>
        obtain ⟨gl, m, c, L, hrow, hU, hl, hL, hA, hM, hz, hgB1⟩ := hcut
        have HG1 := Lib.hid hgB1
        have HF := Lib.hid (And.intro hU (And.intro hl (And.intro hL (And.intro hA hM))))
        have z0 := hrow.cell 0 _ rfl
        have z1 := hrow.cell 1 _ rfl
        have z2 := hrow.cell 2 _ rfl
        have z3 := hrow.cell 3 _ rfl
        have z4 := hrow.cell 4 _ rfl
        have z5 := hrow.cell 5 _ rfl
        have q0 := hz.cell 0 _ rfl
        have q1 := hz.cell 1 _ rfl
        have q2 := hz.cell 2 _ rfl
        have q3 := hz.cell 3 _ rfl
        have q4 := hz.cell 4 _ rfl
        have q5 := hz.cell 5 _ rfl
        have qf := fun j => hz.free j
        have t0 := qf 0
        have t1 := qf 1
        have t2 := qf 2
        have t3 := qf 3
        have t4 := qf 4
        have t5 := qf 5
        have HZL := Lib.hid hz.lt
        have hA0lt : K.b < w.heap.size := H.out.lo _ H.out.inG.2.2
        clear hrow hU hl hL hA hM qf hgB1 x5 f5 HRW HZ0 HH0 HMY
        have HZ6 := Lib.hid ((((((hz.set 0 (.int .i64 kd) (by simp [zNote])).set 1 (.int .i64 me) (by simp [zNote])).set 2 (.int .i64 t) (by simp [zNote])).set 3 (.int .u64 s) (by simp [zNote])).set 4 (.int .i64 fo) (by simp [zNote])).set 5 (.slice (some ⟨gl, 0, none⟩) m c) (by simp [zNote]))
        have HM6 := Lib.hid (show Mod [B + 1] wc ((((((wc.setCell ⟨B + 1, 0, none⟩ (.int .i64 kd)).setCell ⟨B + 1, 1, none⟩ (.int .i64 me)).setCell ⟨B + 1, 2, none⟩ (.int .i64 t)).setCell ⟨B + 1, 3, none⟩ (.int .u64 s)).setCell ⟨B + 1, 4, none⟩ (.int .i64 fo)).setCell ⟨B + 1, 5, none⟩ (.slice (some ⟨gl, 0, none⟩) m c)) from ((((((Mod.refl _ _).setCell (.inl (by simp)) _).setCell (.inl (by simp)) _).setCell (.inl (by simp)) _).setCell (.inl (by simp)) _).setCell (.inl (by simp)) _).setCell (.inl (by simp)) _)
        clear hz
        go_wp2
        clear z0 z1 z2 z3 z4 z5 q0 q1 q2 q3 q4 q5 t0 t1 t2 t3 t4 t5
        generalize ((((((wc.setCell ⟨B + 1, 0, none⟩ (.int .i64 kd)).setCell ⟨B + 1, 1, none⟩ (.int .i64 me)).setCell ⟨B + 1, 2, none⟩ (.int .i64 t)).setCell ⟨B + 1, 3, none⟩ (.int .u64 s)).setCell ⟨B + 1, 4, none⟩ (.int .i64 fo)).setCell ⟨B + 1, 5, none⟩ (.slice (some ⟨gl, 0, none⟩) m c)) = wf at HZ6 HM6 ⊢
        have r0 := HZ6.out.cell 0 (.int .i64 kd) rfl
        have r1 := HZ6.out.cell 1 (.int .i64 me) rfl
        have r2 := HZ6.out.cell 2 (.int .i64 t) rfl
        have r3 := HZ6.out.cell 3 (.int .u64 s) rfl
        have r4 := HZ6.out.cell 4 (.int .i64 fo) rfl
        have r5 := HZ6.out.cell 5 (.slice (some ⟨gl, 0, none⟩) m c) rfl
        refine bodyPost_ret (v := .agg #[.int .i64 kd, .int .i64 me, .int .i64 t, .int .u64 s, .int .i64 fo, .slice (some ⟨gl, 0, none⟩) m c]) (by simp [results, Tryz.results52, go_sem, r0, r1, r2, r3, r4, r5]) rfl ?_
        obtain ⟨hU, hl, hL, hA, hM⟩ := HF.out
        have hBw := HB.out
        have hM' := hM.step HM6.out (fun x hx => .inr (by simp at hx; omega))
        have hbl : K.b < w.heap.size := hA0lt
        rw [← HME.out]
        exact ⟨_, L, rfl, ownsRow_mod hU HM6.out (by simp [Value.ownBlock]; exact HG1.out), hl.1, hl.2, hL, H.out.rumored hM' (hA.q.kept HM6.out (by simp; omega)), hM'⟩

end Go.Proofs.YtaaaiggbnkeblaaGreatDoor

namespace Go.Proofs.YtaaaiggbnkeblaaGreatDoor
set_option linter.unusedSimpArgs false
set_option linter.unusedVariables false
open Go.RowKit

theorem kset_size (b : Nat) : ∀ (vs : List Value) (o : Nat) (w : World), (w.setCells b o vs).heap.size = w.heap.size
  | [], _, _ => rfl
  | v :: r, o, w => by rw [World.setCells, kset_size b r]; simp [World.setCell]
theorem kset_mod (b : Nat) : ∀ (vs : List Value) (o : Nat) (w : World), Mod [b] w (w.setCells b o vs)
  | [], _, _ => Mod.refl _ _
  | v :: r, o, w => by
    rw [World.setCells]
    exact ((Mod.refl [b] w).setCell (.inl (by simp)) _).trans (kset_mod b r _ _)

def watchV (j s x : Int) : List Value := [.int .i64 j, .int .u64 s, .int .u64 x, .bool false]

set_option maxRecDepth 100000 in
set_option maxHeartbeats 2000000 in
theorem wdel_is (p : Nat) (j s x : Int) (w : World) (h3 : w.cell? ⟨p, 3, none⟩ = some (.int .u64 s)) (h4 : w.cell? ⟨p, 4, none⟩ = some (.int .i64 j)) :
    Calls Tryz.prog 116 #[.agg #[.int .i64 j, .int .u64 s, .int .u64 x, .bool false], .pointer (some ⟨p, 0, none⟩)] w fun e w' => e = .returned (.bool true) ∧ Mod [] w w' := by
  have hpl : p < w.heap.size := block_lt_of_cell h3
  have hpn : ¬ p = w.heap.size := by omega
  go_enter Tryz.func116, Tryz.ntmps116
  go_wp2_with fail
  go_ret
  exact ⟨rfl, (Mod.refl [] w).alloc _⟩

set_option maxRecDepth 100000 in
set_option maxHeartbeats 2000000 in
theorem windex_one (p g c : Nat) (j s x : Int) (w : World) (h3 : w.cell? ⟨p, 3, none⟩ = some (.int .u64 s)) (h4 : w.cell? ⟨p, 4, none⟩ = some (.int .i64 j)) (hg : KRow w g (watchV j s x)) :
    Calls Tryz.prog 151 #[.slice (some ⟨g, 0, none⟩) 1 c, .func (.func 116) #[] #[.pointer (some ⟨p, 0, none⟩)]] w fun e w' => e = .returned (.int .i64 0) ∧ Mod [] w w' := by
  have x0 := hg.cell 0 _ rfl
  have x1 := hg.cell 1 _ rfl
  have x2 := hg.cell 2 _ rfl
  have x3 := hg.cell 3 _ rfl
  have HD := Lib.hid (wdel_is p j s x w h3 h4)
  clear hg h3 h4
  go_enter Tryz.func151, Tryz.ntmps151
  go_wp2_with fail
  refine wp_loop_rounds 1 ?_
  rw [rounds_succ]
  go_wp2_with fail
  refine HD.out.mono ?_
  rintro e w1 ⟨rfl, hM⟩
  have HM := Lib.hid hM
  clear hM
  go_wp2
  go_ret
  exact ⟨rfl, HM.out⟩

theorem zero_watch : ∀ w : World, (zeroValue 127).run Tryz.prog w = .ok (.agg #[.int .i64 0, .int .u64 0, .int .u64 0, .bool false]) w := fun w => by kernel_rfl
theorem wclear_one (w : World) (ty : TypeId) (g c : Nat) (xs : List Value) (hg : KRow w g xs) (hx : xs.length = 4) :
    (Builtin.clear_ #[76] ty #[.slice (some ⟨g, 0, none⟩) 1 c]).run Tryz.prog w = .ok (.tuple #[]) (w.setCells g 0 (watchV 0 0 0)) := by
  have hst := run_storeCells_cells (P := Tryz.prog) g 0 (watchV 0 0 0) 0 w (fun j hj => by
    have hj4 : j < xs.length := by rw [hx]; exact hj
    rw [Nat.zero_add]
    rw [hg.cell j xs[j] (by simp)]
    rfl) (fun j hj => hg.free _) (by intro v hv; simp [watchV] at hv; rcases hv with rfl | rfl | rfl | rfl <;> rfl)
  simp only [Nat.add_zero] at hst
  have hzc : (Builtin.zeroCells (Value.agg #[.int .i64 0, .int .u64 0, .int .u64 0, .bool false]).cells 1).toList = watchV 0 0 0 := by first | kernel_rfl | (simp [Builtin.zeroCells, Value.cells, watchV]) | (unfold Builtin.zeroCells watchV; simp; rfl)
  simp [Builtin.clear_, run_underlying Tryz.underlying76, zero_watch, hzc, hst]

set_option maxRecDepth 100000 in
set_option maxHeartbeats 4000000 in
theorem wdelete_one (p g c : Nat) (j s x : Int) (w : World) (h3 : w.cell? ⟨p, 3, none⟩ = some (.int .u64 s)) (h4 : w.cell? ⟨p, 4, none⟩ = some (.int .i64 j)) (hg : KRow w g (watchV j s x)) (hc : 1 ≤ c ∧ c ≤ maxLen) :
    Calls Tryz.prog 115 #[.slice (some ⟨g, 0, none⟩) 1 c, .func (.func 116) #[] #[.pointer (some ⟨p, 0, none⟩)]] w fun e w' => e = .returned (.slice (some ⟨g, 0, none⟩) 0 c) ∧ Mod [g] w w' := by
  have HI := Lib.hid (windex_one p g c j s x w h3 h4 hg)
  have HG := Lib.hid hg
  have hc1 := hc.1
  have hc2 : c ≤ 9223372036854775807 := by have := hc.2; simpa [maxLen] using this
  clear hg h3 h4 hc
  go_enter Tryz.func115, Tryz.ntmps115
  go_wp2_with fail
  refine HI.out.mono ?_
  rintro e w1 ⟨rfl, hM⟩
  have HM := Lib.hid hM
  have hclr := fun ty => wclear_one w1 ty g c _ (HG.out.same hM) rfl
  clear hM
  go_wp2_with fail
  refine wp_loop_rounds 1 ?_
  rw [rounds_succ]
  go_wp2_with fail
  go_ret
  exact ⟨rfl, (HM.out.mono (by simp)).trans (kset_mod g _ 0 w1)⟩

end Go.Proofs.YtaaaiggbnkeblaaGreatDoor
