/-
  TopKnown: the walk of a queue's Take.
  TopKnown: the walk of a queue's Put.
-/
import Derived.Test.YtaaaiggbnkeblaaGreatDoorMKnE
namespace Go.Proofs.YtaaaiggbnkeblaaGreatDoor
set_option linter.unusedSimpArgs false
set_option linter.unusedVariables false
open Go.RowKit

def QTakePost (w : World) (b N : Nat) (e : Ending) (w' : World) : Prop :=
  ∃ (v : Value) (L : List Nat), e = .returned v ∧ Upds w' w.heap.size v (L.map calmU) ∧ (∀ x ∈ L, x < N) ∧ L.length ≤ 6 ∧ QMap w' b N ∧ Mod [b] w w'

theorem TellAt.same {w w' : World} {q o b pl pn pq n N B : Nat} {v : Value} {L : List Nat} (h : TellAt w q o b pl pn pq n N B v L) (hM : Mod [] w w') : TellAt w' q o b pl pn pq n N B v L :=
  ⟨hM.at h.hpl (by simp), (hM.frozen (p := ⟨pl, 0, none⟩) (cell_lt' h.hpl) (by simp)).trans h.fpl, hM.at h.hpn (by simp), hM.at h.hpq (by simp), hM.at h.hq (by simp), h.hmap.kept hM (by simp), ownsRow_mod h.hrow hM (by simp), h.hne, h.hlt, Nat.le_trans h.hB hM.size, h.hlen⟩

set_option maxRecDepth 100000 in
set_option maxHeartbeats 8000000 in
theorem qtake_is (q o b n N : Nat) (hn : 2 ≤ n ∧ n ≤ 7) (hN : N ≤ 6) (w : World) (hq : w.cell? ⟨q, o, none⟩ = some (.map (some b))) (hb : QMap w b N) (hqb : b ≠ q) (hbl : b < w.heap.size) :
    Calls Tryz.prog 106 #[.pointer (some ⟨q, o, none⟩), .int .i64 7, .int .i64 n] w (QTakePost w b N) := by
  have hmf : ∀ fn first cap w, (Instr.makeFunc fn first cap).run Tryz.prog w = .ok (.func fn first cap) w := fun _ _ _ _ => rfl
  have HN := Lib.hid (And.intro hn hN)
  have hql := cell_lt' hq
  have hm := (((Mod.refl [] w).alloc (.cells #[.pointer (some ⟨q, o, none⟩)] 190)).alloc (.cells #[.int .i64 n] 3)).alloc (.cells #[.slice none 0 0] 37)
  have r0 := row_alloc (o := .cells #[.slice none 0 0] 37) (row_alloc (o := .cells #[.int .i64 n] 3) (heap_new w (.cells #[.pointer (some ⟨q, o, none⟩)] 190)))
  have r1 := row_alloc (o := .cells #[.slice none 0 0] 37) (heap_at (w.alloc (.cells #[.pointer (some ⟨q, o, none⟩)] 190)) (.cells #[.int .i64 n] 3) (w.heap.size + 1) (by simp))
  have r2 := heap_at ((w.alloc (.cells #[.pointer (some ⟨q, o, none⟩)] 190)).alloc (.cells #[.int .i64 n] 3)) (.cells #[.slice none 0 0] 37) (w.heap.size + 1 + 1) (by simp)
  have HM := Lib.hid hm
  have HR := Lib.hid (And.intro r0 (And.intro r1 r2))
  have HQ := Lib.hid (And.intro hq hb)
  have HLT := Lib.hid (And.intro hbl (And.intro (show q < w.heap.size from hql) hqb))
  clear hn hN hq hb hm r0 r1 r2 hbl hql hqb
  go_enter Tryz.func106, Tryz.ntmps106
  go_upto_region 2 with fail
  generalize ((w.alloc (.cells #[.pointer (some ⟨q, o, none⟩)] 190)).alloc (.cells #[.int .i64 n] 3)).alloc (.cells #[.slice none 0 0] 37) = W0 at HM HR ⊢
  have x0 := cell_in HR.out.1 (show (#[Value.pointer (some ⟨q, o, none⟩)] : Array Value)[0]? = some (.pointer (some ⟨q, o, none⟩)) from rfl)
  have hq0 := HM.out.at HQ.out.1 (by simp)
  have hb0 := HQ.out.2.kept HM.out (by simp)
  go_wp2_with fail
  refine (items_is q o b N HN.out.2 _ hq0 hb0).mono ?_
  rintro e w1 ⟨g, cap, m, rfl, hm6, hmc, hcm, hI, hg, hM1⟩
  have hm1 : min (7 : Int) m = m := by omega
  have hm2 : max (0 : Int) m = m := by omega
  have hm3 : (0 : Int) ≤ m := by omega
  have hm4 : (m : Int) ≤ cap := by omega
  have HM1 := Lib.hid (HM.out.trans hM1)
  have HW := Lib.hid hM1
  have HI := Lib.hid hI
  have HG := Lib.hid (And.intro hm6 (And.intro hmc (And.intro hcm hg)))
  clear x0 hq0 hb0 hI hM1 hg
  have hx := HR.out
  have e0 := HW.out.at (cell_in hx.1 (show (#[Value.pointer (some ⟨q, o, none⟩)] : Array Value)[0]? = some (.pointer (some ⟨q, o, none⟩)) from rfl)) (by simp)
  have e1 := HW.out.at (cell_in hx.2.1 (show (#[Value.int .i64 n] : Array Value)[0]? = some (.int .i64 n) from rfl)) (by simp)
  have e2 := HW.out.at (cell_in hx.2.2 (show (#[Value.slice none 0 0] : Array Value)[0]? = some (.slice none 0 0) from rfl)) (by simp)
  have f2 := (HW.out.frozen (p := ⟨w.heap.size + 1 + 1, 0, none⟩) (Array.getElem?_eq_some_iff.1 hx.2.2).1 (by simp)).trans (free_in (j := 0) hx.2.2)
  have hlt := HLT.out
  have hs1 := HM1.out.size
  have hpw : w.heap.size + 1 + 1 < w1.heap.size := cell_lt' e2
  have HT := Lib.hid (show TellAt w1 q o b (w.heap.size + 1 + 1) (w.heap.size + 1) w.heap.size n N w1.heap.size (.slice none 0 0) [] from
    ⟨e2, f2, e1, e0, HM1.out.at HQ.out.1 (by simp), HQ.out.2.kept HM1.out (by simp), ⟨rfl, .inl ⟨rfl, rfl⟩⟩, by omega, by omega, Nat.le_refl _, by simp⟩)
  have HPW := Lib.hid hpw
  clear hx e0 e1 e2 f2 hlt hs1 hpw
  by_cases h0 : 0 < m
  · go_wp2_with fail
    go_loopw [22] (fun i wr => ∃ (k : Nat) (v : Value) (L : List Nat), i = .int .i64 k ∧ k ≤ m ∧ L.length = k ∧ (∀ x ∈ L, x < N) ∧ ItemsAt wr g m N ∧ TellAt wr q o b (w.heap.size + 1 + 1) (w.heap.size + 1) w.heap.size n N w1.heap.size v L ∧ Mod [b] w wr) (fun i _ => m - (intOf i).toNat)
    case atStart => exact ⟨0, _, [], rfl, Nat.zero_le _, rfl, by simp, HI.out, HT.out, HM1.out.wide (by simp)⟩
    case round =>
      obtain ⟨k, v, L, rfl, hkm, hL, hLN, hIr, hTr, hMr⟩ := hrel
      by_cases hlt : k < m
      · have hlt' : (k : Int) < m := by omega
        have hk0 : (0 : Int) ≤ k := by omega
        obtain ⟨x, t, hx, ht, d0, d1, d2, d3⟩ := hIr.cells k hlt
        have hwk : wrap64 ((k : Int) + 1) = (k : Int) + 1 := wrap_small (by omega) (by have := HG.out.1; omega)
        have hma := (Mod.refl [] wr).alloc (.cells #[.int .i64 x, .int .u64 0, .int .i64 0, .int .i64 t] 192)
        have hvge := ownsRow_ge hTr.hrow
        have hgB : g < w1.heap.size := HI.out.lt
        have hL9 : L.length ≤ 99 := by rw [hL]; exact Nat.le_trans hkm (Nat.le_trans HG.out.1 (by decide))
        have HTELL := Lib.hid (tell_is q o b (w.heap.size + 1 + 1) (w.heap.size + 1) w.heap.size n N w1.heap.size x t v L HN.out.1 HN.out.2 hx ht _ (hTr.same hma) hL9)
        have HREL := Lib.hid (And.intro hL (And.intro hLN (And.intro (hIr.mod hma (by simp)) (And.intro hMr (And.intro hvge (And.intro hx hgB))))))
        clear hL9 hma hvge hgB hL hLN hMr hTr hx ht hIr
        go_wp2_with fail
        refine HTELL.out.mono ?_
        rintro _ w2 ⟨rfl, v', hT2, hM2⟩
        obtain ⟨hL, hLN, hIr, hMr, hvge, hx, hgB⟩ := HREL.out
        have hbl := HLT.out.1
        have hgw := HG.out.2.2.2
        have hs0 := HM.out.size
        have hW1 := HPW.out
        have hgp : g ≠ w.heap.size + 1 + 1 := fun e => by
          have := (Array.getElem?_eq_some_iff.1 HR.out.2.2).1
          omega
        have hI2 := hIr.mod hM2 (by
          simp only [List.mem_cons, not_or, Option.mem_toList]
          refine ⟨hgp, by omega, fun e => ?_⟩
          have := (hvge g e).1
          omega)
        have hM3 : Mod [b] w w2 := (hMr.alloc _).step hM2 (fun y hy => by
          simp only [List.mem_cons, Option.mem_toList] at hy
          rcases hy with hy | hy | hy
          · right; omega
          · left; simp [hy]
          · right; have := (hvge y hy).1; omega)
        have HF := Lib.hid (And.intro (show (L ++ [x]).length = k + 1 by simp [hL]) (And.intro (show ∀ y ∈ L ++ [x], y < N by intro y hy; simp at hy; rcases hy with hy | hy; exact hLN y hy; omega) (And.intro hI2 (And.intro hT2 hM3))))
        clear hL hLN hIr hMr hvge hx hgB hbl hgw hs0 hW1 hgp hI2 hM3 hT2 hM2
        go_wp2_with fail
        refine ⟨⟨k + 1, v', L ++ [x], ?_, by omega, HF.out.1, HF.out.2.1, HF.out.2.2.1, HF.out.2.2.2.1, HF.out.2.2.2.2⟩, ?_⟩
        · first | rfl | (rw [hwk]; rfl)
        · first | exact meas_next hlt | (rw [hwk]; exact meas_next hlt)
      · have hlt' : ¬ (k : Int) < m := by omega
        obtain ⟨va, vn, vc, rfl⟩ : ∃ va vn vc, v = .slice va vn vc := by
          rcases hTr.hrow.2 with ⟨h, _⟩ | ⟨gv, cv, _, h, _⟩
          · exact ⟨_, _, _, h⟩
          · exact ⟨_, _, _, h⟩
        have HREL := Lib.hid (And.intro hL (And.intro hLN (And.intro hTr hMr)))
        have hpl := hTr.hpl
        have hfp := hTr.fpl
        clear hL hLN hTr hMr hIr
        go_wp2_with fail
        have hs : Mod [w.heap.size + 1 + 1] wr (wr.setCell ⟨w.heap.size + 1 + 1, 0, none⟩ (.slice va vn vc)) := (Mod.refl _ _).setCell (.inl (by simp)) _
        refine bodyPost_ret (results_word rfl _ _ ⟨w.heap.size + 1 + 1, 0, none⟩ _ rfl Tryz.underlying37 (cell_set_same hpl)) rfl ?_
        obtain ⟨hL, hLN, hTr, hMr⟩ := HREL.out
        have hbl := HLT.out.1
        have hB := HPW.out
        exact ⟨_, L, rfl, ownsRow_base (ownsRow_mod hTr.hrow hs (fun y hy => by have := (ownsRow_ge hTr.hrow y hy).1; simp; omega)) HM1.out.size, hLN, by have := HG.out.1; omega, hTr.hmap.kept hs (by simp; omega), hMr.step hs (fun y hy => .inr (by simp at hy; omega))⟩
  · have hm0 : m = 0 := by omega
    subst hm0
    have hpl := HT.out.hpl
    have hfp := HT.out.fpl
    go_wp2_with fail
    refine wp_loop_rounds 1 ?_
    rw [rounds_succ]
    go_wp2_with fail
    have hs : Mod [w.heap.size + 1 + 1] w1 (w1.setCell ⟨w.heap.size + 1 + 1, 0, none⟩ (.slice none 0 0)) := (Mod.refl _ _).setCell (.inl (by simp)) _
    refine bodyPost_ret (results_word rfl _ _ ⟨w.heap.size + 1 + 1, 0, none⟩ _ rfl Tryz.underlying37 (cell_set_same hpl)) rfl ?_
    have hbl := HLT.out.1
    exact ⟨_, [], rfl, ⟨rfl, .inl ⟨rfl, rfl⟩⟩, by simp, by simp, (HQ.out.2.kept HM1.out (by simp)).kept hs (by simp; omega), (HM1.out.wide (T := [b]) (by simp)).step hs (fun y hy => .inr (by simp at hy; omega))⟩

end Go.Proofs.YtaaaiggbnkeblaaGreatDoor

namespace Go.Proofs.YtaaaiggbnkeblaaGreatDoor
set_option linter.unusedSimpArgs false
set_option linter.unusedVariables false
open Go.RowKit

theorem QMap.heap {w w' : World} {b N : Nat} (h : QMap w b N) (e : w'.heap[b]? = w.heap[b]?) : QMap w' b N := by
  obtain ⟨D, ⟨es, clock, hb, h1⟩, hk⟩ := h
  exact ⟨D, ⟨es, clock, e.trans hb, h1⟩, hk⟩
theorem findNow_int (k : Int) : ∀ (es : List MapEntry) (i : Nat), (∀ x ∈ es, ∃ n, x.key = .int .i64 n) → ∃ r, Instr.findNow (.int .i64) (.int .i64 k) es i = some r
  | [], i, _ => ⟨none, rfl⟩
  | x :: es, i, h => by
    obtain ⟨n, hn⟩ := h x (by simp)
    obtain ⟨r, hr⟩ := findNow_int k es (i + 1) (fun y hy => h y (by simp [hy]))
    by_cases e : k = n
    · exact ⟨some (i, x.val), by simp [Instr.findNow, hn, Instr.sameNow, e]⟩
    · exact ⟨r, by simp [Instr.findNow, hn, Instr.sameNow, show (k == n) = false from by simp [e], hr]⟩
theorem QMap.look {w : World} {b N k : Nat} (h : QMap w b N) (hN0 : 0 < N) (hN : N ≤ 6) (hk : k < N) :
    ∃ (k' t : Nat) (is : Bool), ∀ w' : World, w'.heap[b]? = w.heap[b]? → (Instr.lookup 70 (.map (some b)) (.int .i64 k) true).run Tryz.prog w' = .ok (.tuple #[.agg #[.int .i64 k', .int .u64 0, .int .i64 0, .int .i64 t], .bool is]) w' := by
  have hz : ∀ w : World, (zeroValue 192).run Tryz.prog w = .ok (itemV (0, 0, 0) 0) w := fun w => by kernel_rfl
  obtain ⟨D, ho, hkl⟩ := h
  have hwf : (Lit.int .i64 (k : Int)).wf = true := by
    simp only [Lit.wf, Bool.and_eq_true, decide_eq_true_eq]
    exact ⟨by show (-9223372036854775808 : Int) ≤ k; omega, by show (k : Int) ≤ 9223372036854775807; omega⟩
  obtain ⟨v, ps, hrun, hv⟩ := ho.look_ok keyedInt Tryz.underlying70 (hz w) (calmElem_mk (N := N) ⟨0, 0, hN0, by decide, rfl⟩) (Go.Maps.keyOf_int_mk Tryz.underlying3 hwf)
  obtain ⟨⟨k', t, _, _, rfl⟩, _⟩ := calmElem_inv hv
  obtain ⟨es, clock, hb, F, _⟩ := ho
  have hks : ∀ x ∈ es.toList, ∃ n, x.key = .int .i64 n := fun x hx => by
    obtain ⟨kl, hkl⟩ := F.keys x hx
    obtain ⟨n, hn, _⟩ := Go.Maps.keyOf_int_inv Tryz.underlying3 hkl
    exact ⟨n, hn⟩
  obtain ⟨r, hr⟩ := findNow_int k es.toList 0 hks
  have hfind : ∀ w' : World, (Instr.findKey 3 (.int .i64 k) es.toList).run Tryz.prog w' = .ok r w' := fun w' => by
    simp [Instr.findKey, mrun_underlying Tryz.underlying3, Sem.run_bind, Result.andThen, hr]
  have hall : ∃ v0 is, ∀ w' : World, w'.heap[b]? = w.heap[b]? → (Instr.lookup 70 (.map (some b)) (.int .i64 k) true).run Tryz.prog w' = .ok (.tuple #[v0, .bool is]) w' := by
    cases r with
    | none => exact ⟨_, false, fun w' e => by simp [Instr.lookup, mrun_underlying Tryz.underlying70, Sem.run_bind, Result.andThen, mrun_getMap (e.trans hb), mrun_check _ _ Tryz.underlying3, hfind, hz w']; rfl⟩
    | some r =>
      obtain ⟨i, v0⟩ := r
      exact ⟨v0, true, fun w' e => by simp [Instr.lookup, mrun_underlying Tryz.underlying70, Sem.run_bind, Result.andThen, mrun_getMap (e.trans hb), mrun_check _ _ Tryz.underlying3, hfind]⟩
  obtain ⟨v0, is, hall⟩ := hall
  have he := (hall w rfl).symm.trans hrun
  simp only [Result.ok.injEq, Value.tuple.injEq, and_true] at he
  have hv0 : v0 = .agg #[.int .i64 k', .int .u64 0, .int .i64 0, .int .i64 t] := by simpa using (List.cons.inj (congrArg Array.toList he)).1
  exact ⟨k', t, is, by rw [← hv0]; exact hall⟩
/-- A map of one calm item. -/
theorem QMap.one {w : World} {b N k : Nat} (hN : N ≤ 6) (hk : k < N) (h : OneMap w b ((k : Int), 0, 0) 0) : QMap w b N := by
  have hb : b < w.heap.size := (Array.getElem?_eq_some_iff.1 (show w.heap[b]? = _ from h)).1
  have h0 : (w.putObj b (.map #[] 0)).heap[b]? = some (.map #[] 0) := World.putObj_heap_same hb
  have hq : QMap (w.putObj b (.map #[] 0)) b N := ((QMap.made w N).heap (w' := w.alloc (.map #[] 0)) rfl).elim (fun D hD => by
    obtain ⟨⟨es, clock, hb1, h1⟩, hk1⟩ := hD
    rw [heap_new] at hb1
    cases hb1
    exact ⟨D, ⟨#[], 0, h0, h1⟩, hk1⟩)
  obtain ⟨w', hrun, hq', _⟩ := hq.put hN hk ⟨k, 0, hk, by decide, rfl⟩
  have hup := mrun_update_new (P := Tryz.prog) (k := (k : Int)) (v := .agg #[.int .i64 k, .int .u64 0, .int .i64 0, .int .i64 0]) Tryz.underlying70 Tryz.underlying3 h0
  have he : Result.ok () w' = Result.ok () ((w.putObj b (.map #[] 0)).putObj b (.map #[{ key := .int .i64 k, val := .agg #[.int .i64 k, .int .u64 0, .int .i64 0, .int .i64 0], born := 0 }] (0 + 1))) := hrun.symm.trans hup
  cases he
  refine hq'.heap ?_
  rw [show w.heap[b]? = _ from h, World.putObj_heap_same (by simpa using hb)]
  rfl

def PutPost (w : World) (b N : Nat) (e : Ending) (w' : World) : Prop := ∃ x : Int, e = .returned (.int .i64 x) ∧ QMap w' b N ∧ Mod [b] w w'

set_option maxRecDepth 100000 in
set_option maxHeartbeats 8000000 in
theorem qput_is (q o b N k : Nat) (hN : N ≤ 6) (hk : k < N) (w : World) (hq : w.cell? ⟨q, o, none⟩ = some (.map (some b))) (hb : QMap w b N) (hqb : q ≠ b) :
    Calls Tryz.prog 46 #[.pointer (some ⟨q, o, none⟩), .agg #[.int .i64 k, .int .u64 0, .int .i64 0]] w (PutPost w b N) := by
  have hql := cell_lt' hq
  have hbo : ∀ w : World, (binOp .eql 70 (.map (some b)) (.map none)).run Tryz.prog w = .ok (.bool false) w := fun w => by kernel_rfl
  have HQ := Lib.hid (And.intro hq (And.intro hb (And.intro hN hk)))
  clear hq hb hN
  go_enter Tryz.func46, Tryz.ntmps46
  go_wp2_with fail
  refine (rmay_is k 0 0 (by have := HQ.out.2.2; omega) (by decide) _).mono ?_
  rintro e w1 ⟨rfl, hM⟩
  have hM1 := ((Mod.refl [] w).alloc _).trans hM
  have d0 : w1.cell? ⟨w.heap.size, 0, none⟩ = some (.int .i64 k) := (hM.cell (by simp) (by simp)).trans (cell_in (heap_new _ _) rfl)
  have d1 : w1.cell? ⟨w.heap.size, 1, none⟩ = some (.int .u64 0) := (hM.cell (by simp) (by simp)).trans (cell_in (heap_new _ _) rfl)
  have d2 : w1.cell? ⟨w.heap.size, 2, none⟩ = some (.int .i64 0) := (hM.cell (by simp) (by simp)).trans (cell_in (heap_new _ _) rfl)
  have hq := (hM1.cell (by exact hql) (by simp)).trans HQ.out.1
  have hb1 := HQ.out.2.1.kept hM1 (by simp)
  have hs1 := hM1.size
  have hs1' : w.heap.size < w1.heap.size := Nat.lt_of_lt_of_le (by simp) hM.size
  have HM := Lib.hid hM1
  have hql1 : q < w1.heap.size := by omega
  have hne1 : ¬ q = w1.heap.size := by omega
  obtain ⟨k', t, is, hlk⟩ := hb1.look (by omega) HQ.out.2.2.1 hk
  have hbl1 : b < w1.heap.size := by
    obtain ⟨D, ho, _⟩ := hb1
    exact ho.lt
  have hlk1 := hlk w1.drew rfl
  have hlk2 := hlk (w1.alloc (.cells #[.int .i64 0, .int .u64 0, .int .i64 0, .int .i64 0] 192)).drew (((Mod.refl [] w1).alloc _).drew.block b hbl1 (by simp))
  have HB1 := Lib.hid hb1
  clear hM hM1 hb1 hlk
  cases is with
  | true =>
    go_wp2_with fail
    go_region
    all_goals
      have HMe := Lib.hid (show Mod [] w1 (w1.alloc (.cells #[.int .i64 k', .int .u64 0, .int .i64 0, .int .i64 t] 192)).drew from ((Mod.refl [] w1).alloc _).drew)
      have d0' := HMe.out.at d0 (by simp)
      have d1' := HMe.out.at d1 (by simp)
      have d2' := HMe.out.at d2 (by simp)
      go_wp2_with fail
      refine (rnewer_is k 0 0 k' 0 0 false (by decide) _).mono ?_
      rintro e w2 ⟨rfl, hM2⟩
      have HM2 := Lib.hid hM2
      clear hM2
      go_wp2_with fail
      go_ret
      have hmm := HM.out.trans (HMe.out.trans HM2.out)
      exact ⟨_, rfl, HQ.out.2.1.kept hmm (by simp), hmm.wide (by simp)⟩
  | false =>
    go_wp2_with fail
    go_region
    all_goals
      obtain ⟨W2, hW2⟩ : ∃ W2, (w1.alloc (.cells #[.int .i64 k', .int .u64 0, .int .i64 0, .int .i64 t] 192)).drew = W2 := ⟨_, rfl⟩
      have HMe := Lib.hid (show Mod [] w1 W2 from hW2 ▸ ((Mod.refl [] w1).alloc _).drew)
      have d0' := HMe.out.at d0 (by simp)
      have d1' := HMe.out.at d1 (by simp)
      have d2' := HMe.out.at d2 (by simp)
      have hq' := HMe.out.at hq (by simp)
      rw [hW2]
      clear hW2 d0 d1 d2 hq hlk1 hlk2
      have hb2 := HB1.out.kept HMe.out (by simp)
      obtain ⟨W5, hput, hq5, hm5⟩ := (hb2.kept (Mod.refl [] W2).drew (by simp)).put HQ.out.2.2.1 hk (v := .agg #[.int .i64 k, .int .u64 0, .int .i64 0, .int .i64 0]) ⟨k, 0, hk, by decide, rfl⟩
      have HM5 := Lib.hid (show Mod [b] w W5 from ((HM.out.trans HMe.out).drew.wide (T := [b]) (by simp)).trans hm5)
      have HQ5 := Lib.hid hq5
      have hqs := HM5.out.at HQ.out.1 (by simp; exact hqb)
      clear hb2 hq5 hm5
      go_wp2_with fail
      go_region
      go_wp2_with fail
      refine (items_is q o b N HQ.out.2.2.1 _ hqs HQ5.out).mono ?_
      rintro e w6 ⟨g, cap, m, rfl, hm6, hmc, hcm, hI, hg, hM6⟩
      have hgt : ¬ (m : Int) > 32 := by omega
      have hgt2 : ¬ (32 : Int) < m := by omega
      have HF := Lib.hid (And.intro (HQ5.out.kept hM6 (by simp)) (HM5.out.trans (hM6.wide (by simp))))
      clear hM6 hI
      go_wp2_with fail
      go_ret
      exact ⟨_, rfl, HF.out.1, HF.out.2⟩

end Go.Proofs.YtaaaiggbnkeblaaGreatDoor
