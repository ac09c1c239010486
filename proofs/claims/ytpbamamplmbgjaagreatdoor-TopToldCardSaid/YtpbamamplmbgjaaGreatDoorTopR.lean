/-
  A range over a function whose iterator keeps a state of its own: by the walk's lowest laws. band.List.
-/
import Derived.Test.YtpbamamplmbgjaaGreatDoorTopA
import Derived.Test.YtpbamamplmbgjaaGreatDoorOwned
import Derived.Test.YtpbamamplmbgjaaGreatDoorRangeF
import Derived.RangeFuncBox
import Derived.RangeFuncCalls
import Derived.RangeFuncLeaves
import Derived.Shelf.Abstract
import Derived.OwnWalkIn
import Derived.TacticsInMore
import Derived.LoopNIn
import Derived.LoopIn
namespace Go.Proofs.YtpbamamplmbgjaaGreatDoor
set_option linter.unusedSimpArgs false
set_option linter.unusedVariables false
open Go.RowKit Go.Shelf
attribute [local go_sem] Oper.semAt_some

/-- The bits of a band, lowest first. -/
inductive Bits : Int → List Int → Prop
  | nil : Bits 0 []
  | cons {x x' : Int} {k : Nat} {ks : List Int} (h0 : (x == 0) = false) (h1 : bits .and .u64 x (IntKind.u64.wrap (-x)) = 2 ^ k) (h2 : k < 64) (h3 : bits .and .u64 x (IntKind.u64.wrap (x - 1)) = x') (h4 : 0 ≤ x') (h5 : x' < x) (h6 : Bits x' ks) : Bits x ((k : Int) :: ks)

theorem grown_from {S : List Nat} {a w w' : World} {r : Option Nat} (h : Mod S a w) (hg : w.grownBy w' r) (hs : ∀ b, r = some b → a.heap.size ≤ b) : Mod S a w' :=
  ⟨hg.os.trans h.os, hg.tape.trans h.tape, hg.output.trans h.output, Nat.le_trans h.size hg.size, fun k hk hks => (hg.block k (Nat.lt_of_lt_of_le hk h.size) (fun e => by
    have := hs k e.symm
    omega)).trans (h.block k hk hks)⟩

theorem results_word {P : Program} {fn : Func} {p : Tmp} {ty e : TypeId} (h : fn.results = #[.cell p ty]) (tmps : Array Value) (w : World) (a : Addr) (v : Value) (hp : tmps.getD p undef = .pointer (some a)) (hu : P.underlying ty = some (.slice e)) (hc : w.cell? a = some v) : (results fn tmps).run P w = .ok v w := by
  have hp' : tmps[p]?.getD undef = .pointer (some a) := by simpa using hp
  have hr : Sem.run P (underlying ty) w = .ok (.slice e) w := by simp [underlying, hu]
  simp [results, h, hp', asAddr, loadVar, isAgg, hr, hc, go_sem]

theorem Owned.base {k : IntKind} {e : TypeId} {w : World} {B C : Nat} {v : Value} {xs : List Int} (h : Owned k e w B v xs) (hC : C ≤ B) : Owned k e w C v xs := by
  obtain ⟨hl, h⟩ := h
  refine ⟨hl, ?_⟩
  rcases h with h | ⟨g, cap, cur, rfl, hB, hg, h1, h2, h3, h4⟩
  · exact .inl h
  · exact .inr ⟨g, cap, cur, rfl, Nat.le_trans hC hB, hg, h1, h2, h3, h4⟩

theorem Tryz.inf_int : (Tryz.prog.info? 3).map (fun i => (i.zero, i.size, i.bytes)) = some (some (.int .i64 0), 1, 8) := by kernel_rfl

def cellNat (v : Option Value) : Nat := match v with | some (.int _ n) => n.toNat | _ => 0

def BListPost (w : World) (ks : List Int) (e : Ending) (w' : World) : Prop := ∃ v, e = .returned v ∧ Owned .i64 3 w' w.heap.size v ks ∧ Mod [] w w'

set_option maxRecDepth 100000 in
set_option maxHeartbeats 4000000 in
theorem blist_in (b : Int) (ks : List Int) (hB : Bits b ks) (hl : ks.length ≤ 64) (w : World) (ht : Tab w) : CallsIn Fence.wide 3 Tryz.prog 85 #[.int .u64 b] w (BListPost w ks) := by
  refine callsIn_of_wp_marks Tryz.func85 rfl trivial ?_ rfl
  simp only [Tryz.ntmps85, List.size_toArray, List.length_cons, List.length_nil, Nat.reduceAdd, Nat.reduceSub, Array.replicate_succ, Array.replicate_zero, List.push_toArray, List.append_toArray, List.nil_append, List.cons_append]
  gi_wp2_with (refine ⟨trivial, ?_⟩; gi_at_call 144; refine (callsIn_wide.2 (nodes_is b _)).mono ?_; rintro e w' ⟨rfl, rfl⟩)
  refine range_open rfl (by omega) (gf := 174) (lb := #[.pointer (some ⟨w.heap.size + 1, 0, none⟩)]) rfl trivial (enters_of Tryz.func174 (by kernel_rfl) rfl) ?_
  intro fn rec hfn hrec
  have HREC := Lib.hid hrec
  clear hrec
  obtain ⟨W0, hW0⟩ : ∃ W0, ((((w.alloc (.cells #[.slice none 0 0] 92)).alloc (.cells #[.int .u64 b] 22)).alloc (.deferred (some []))).alloc (.loop (rec .ready none))) = W0 := ⟨_, rfl⟩
  have hs0 : W0.heap.size = w.heap.size + 1 + 1 + 1 + 1 := by rw [← hW0]; simp
  have hl0 : W0.heap[w.heap.size + 1 + 1 + 1]? = some (.loop (rec .ready none)) := by rw [← hW0]; exact heap_at _ _ _ (by simp)
  have hk0 : W0.heap[w.heap.size + 1 + 1]? = some (.deferred (some [])) := by
    rw [← hW0, Below.heap_alloc _ _ _ (by simp)]; exact heap_at _ _ _ (by simp)
  have hb0 : W0.heap[w.heap.size + 1]? = some (.cells #[.int .u64 b] 22 (0, 0)) := by
    rw [← hW0, Below.heap_alloc _ _ _ (by simp), Below.heap_alloc _ _ _ (by simp)]; exact heap_at _ _ _ (by simp)
  have hr0 : W0.heap[w.heap.size]? = some (.cells #[.slice none 0 0] 92 (0, 0)) := by
    rw [← hW0, Below.heap_alloc _ _ _ (by simp; omega), Below.heap_alloc _ _ _ (by simp; omega), Below.heap_alloc _ _ _ (by simp)]; exact heap_new _ _
  have hm0 : Mod [] w W0 := by rw [← hW0]; exact ((((Mod.refl [] w).alloc _).alloc _).alloc _).alloc _
  rw [hW0]
  have HF := Lib.hid (And.intro hs0 (And.intro hl0 (And.intro hk0 (And.intro hb0 (And.intro hr0 hm0)))))
  clear hW0 hs0 hl0 hk0 hb0 hr0 hm0
  refine callsIn_of_wp Tryz.func174 rfl trivial ?_ rfl
  simp only [Tryz.ntmps174, World.size_alloc, List.size_toArray, List.length_cons, List.length_nil, Nat.reduceAdd, Nat.reduceSub, Array.replicate_succ, Array.replicate_zero, List.push_toArray, List.append_toArray, List.nil_append, List.cons_append]
  gi_wp2
  gi_loopw [] (fun wr => ∃ pre x ks', ks = pre ++ ks' ∧ Bits x ks' ∧ wr.heap[w.heap.size + 1]? = some (.cells #[.int .u64 x] 22 (0, 0)) ∧ wr.heap[w.heap.size + 1 + 1 + 1]? = some (.loop (rec .ready none)) ∧ wr.heap[w.heap.size + 1 + 1]? = some (.deferred (some [])) ∧
    (∃ va vn vc, wr.heap[w.heap.size]? = some (.cells #[.slice va vn vc] 92 (0, 0)) ∧ Owned .i64 3 wr (w.heap.size + 1 + 1 + 1 + 1) (.slice va vn vc) pre) ∧ Mod [] w wr) (fun wr => cellNat (wr.cell? ⟨w.heap.size + 1, 0, none⟩))
  case atStart =>
    obtain ⟨hs0, hl0, hk0, hb0, hr0, hm0⟩ := HF.out
    exact ⟨[], b, ks, rfl, hB, hb0, hl0, hk0, ⟨none, 0, 0, hr0, Owned.nil _ _ _ _⟩, hm0⟩
  case round =>
    obtain ⟨pre, x, ks', hks, hbits, hb, hlp, hk, ⟨va, vn, vc, hv, hO⟩, hM⟩ := hrel
    have hbc := cell_in hb (show (#[Value.int .u64 x] : Array Value)[0]? = some (.int .u64 x) from rfl)
    have hbf := free_in (j := 0) hb
    have HKS := Lib.hid hks
    have HH := Lib.hid (And.intro hb (And.intro hlp (And.intro hk (And.intro hv (And.intro hO hM)))))
    clear hks hb hlp hk hv hO hM
    cases hbits with
    | nil =>
      gi_wp2
      go_end0
      obtain ⟨hb, hlp, hk, hv, hO, hM⟩ := HH.out
      have hready : (rec .ready none).state ≠ .busy := by rw [HREC.out]; simp
      have hpend : (rec .ready none).pending = none := by rw [HREC.out]
      obtain ⟨o', hend⟩ : ∃ o', (Instr.endLoop (w.heap.size + 1 + 1 + 1)).run Tryz.prog wr = .ok none (wr.putObj (w.heap.size + 1 + 1 + 1) o') := ⟨_, (run_endLoop hlp hready).trans (by rw [hpend])⟩
      refine ⟨none, _, hend, ?_⟩
      have hv2 : (wr.putObj (w.heap.size + 1 + 1 + 1) o').heap[w.heap.size]? = some (.cells #[.slice va vn vc] 92 (0, 0)) := (World.putObj_heap_other (by omega)).trans hv
      have hk2 : (wr.putObj (w.heap.size + 1 + 1 + 1) o').heap[w.heap.size + 1 + 1]? = some (.deferred (some [])) := (World.putObj_heap_other (by omega)).trans hk
      have hvc := cell_in hv2 (show (#[.slice va vn vc] : Array Value)[0]? = some (.slice va vn vc) from rfl)
      have hvf := free_in (j := 0) hv2
      have hM2 : Mod [] w (wr.putObj (w.heap.size + 1 + 1 + 1) o') := ⟨hM.os, hM.tape, hM.output, by simpa using hM.size, fun k hk _ => (World.putObj_heap_other (by omega)).trans (hM.block k hk (by simp))⟩
      have hO2 : Owned .i64 3 (wr.putObj (w.heap.size + 1 + 1 + 1) o') (w.heap.size + 1 + 1 + 1 + 1) (.slice va vn vc) pre := by
        refine hO.mod (S := [w.heap.size + 1 + 1 + 1]) ⟨rfl, rfl, rfl, by simp, fun k _ hk => World.putObj_heap_other (by simpa using hk)⟩ (fun b hb => ?_)
        have := hO.own_ge b hb
        simp
        omega
      have HE := Lib.hid (And.intro hM2 hO2)
      clear hb hlp hk hv hO hM hM2 hO2 hend
      generalize wr.putObj (w.heap.size + 1 + 1 + 1) o' = wE at hv2 hk2 hvc hvf HE ⊢
      have hs2 : (wE.setCell ⟨w.heap.size, 0, none⟩ (.slice va vn vc)).heap[w.heap.size + 1 + 1]? = some (.deferred (some [])) := (Below.heap_setCell _ _ _ _ (by simp; omega)).trans hk2
      have HK2 := Lib.hid hs2
      gi_wp2
      refine ⟨by simp, .inl ⟨_, _, rfl, run_takeDeferred HK2.out, ?_⟩⟩
      obtain ⟨hM2, hO2⟩ := HE.out
      have hks : pre = ks := by have := HKS.out; simpa using this.symm
      subst hks
      have hch : Mod [w.heap.size, w.heap.size + 1 + 1] wE ((wE.setCell ⟨w.heap.size, 0, none⟩ (.slice va vn vc)).putObj (w.heap.size + 1 + 1) (.deferred none)) := ⟨rfl, rfl, rfl, by simp [World.setCell], fun k _ hk => (World.putObj_heap_other (by simp at hk; omega)).trans (Below.heap_setCell _ _ _ _ (by simp at hk ⊢; omega))⟩
      have hfin : ((wE.setCell ⟨w.heap.size, 0, none⟩ (.slice va vn vc)).putObj (w.heap.size + 1 + 1) (.deferred none)).cell? ⟨w.heap.size, 0, none⟩ = some (.slice va vn vc) :=
        (World.cell?_of_block (w := wE.setCell ⟨w.heap.size, 0, none⟩ (.slice va vn vc)) (World.putObj_heap_other (by simp; omega))).trans (cell_set_same hvc)
      refine ⟨_, results_word rfl _ _ ⟨w.heap.size, 0, none⟩ _ rfl Tryz.underlying92 hfin, ?_⟩
      exact ⟨_, rfl, (hO2.base (by omega)).mod hch (fun b hb => by have := hO2.own_ge b hb; simp; omega), hM2.step hch (fun t ht => .inr (by simp at ht; omega))⟩
    | @cons _ x' k ks'' g0 g1 g2 g3 g4 g5 g6 =>
      have HTZ := Lib.hid (tz_is x k g0 g1 g2 wr (ht.mod HH.out.2.2.2.2.2 (by simp)))
      obtain ⟨i0, hi, hz0, hz1, hz2⟩ := info_parts Tryz.inf_int
      have hpl : pre.length < 64 := by have := HKS.out; rw [this] at hl; simp at hl; omega
      have HREST := Lib.hid (And.intro g3 (And.intro g4 (And.intro g5 g6)))
      have hY : YieldAt Fence.wide 1 Tryz.prog (w.heap.size + 1 + 1 + 1) #[.int .i64 k] wr (fun e W' => e = .returned (.bool true) ∧ W'.heap[w.heap.size + 1]? = some (.cells #[.int .u64 x] 22 (0, 0)) ∧ W'.heap[w.heap.size + 1 + 1 + 1]? = some (.loop (rec .ready none)) ∧ W'.heap[w.heap.size + 1 + 1]? = some (.deferred (some [])) ∧
          (∃ va vn vc, W'.heap[w.heap.size]? = some (.cells #[.slice va vn vc] 92 (0, 0)) ∧ Owned .i64 3 W' (w.heap.size + 1 + 1 + 1 + 1) (.slice va vn vc) (pre ++ [(k : Int)])) ∧ Mod [] w W') := by
        obtain ⟨hb, hlp, hk, hv, hO, hM⟩ := HH.out
        refine round_open trivial HREC.out hlp rfl { tmps := #[.int .u64 b, undef, .pointer (some ⟨w.heap.size, 0, none⟩), .int .i64 k, .int .u64 b, .func (.func 174) #[] #[.pointer (some ⟨w.heap.size + 1, 0, none⟩)], .int .i64 k, undef, undef, undef, undef, undef], defers := [] } ?_ ?_
        · intro K hK
          gi_wp2
          exact hK
        · have hch : Mod [w.heap.size + 1 + 1 + 1] wr (wr.putObj (w.heap.size + 1 + 1 + 1) (.loop { rec .ready none with state := .busy })) := ⟨rfl, rfl, rfl, by simp, fun k _ hk => World.putObj_heap_other (by simpa using hk)⟩
          have hl2 : (wr.putObj (w.heap.size + 1 + 1 + 1) (.loop { rec .ready none with state := .busy })).heap[w.heap.size + 1 + 1 + 1]? = some (.loop { rec .ready none with state := .busy }) := World.putObj_heap_same (Array.getElem?_eq_some_iff.1 hlp).1
          have HCH := Lib.hid hch
          have HL2 := Lib.hid hl2
          have hO2 := Lib.hid (hO.mod hch (fun b hb => by have := hO.own_ge b hb; simp; omega))
          have hv2 := (hch.block _ (Array.getElem?_eq_some_iff.1 hv).1 (by simp; omega)).trans hv
          have hvc := cell_in hv2 (show (#[.slice va vn vc] : Array Value)[0]? = some (.slice va vn vc) from rfl)
          have hvf := free_in (j := 0) hv2
          have HV2 := Lib.hid hv2
          have HB2 := Lib.hid ((hch.block _ (Array.getElem?_eq_some_iff.1 hb).1 (by simp)).trans hb)
          have HK2 := Lib.hid ((hch.block _ (Array.getElem?_eq_some_iff.1 hk).1 (by simp)).trans hk)
          have HM2 := Lib.hid (hM.step hch (fun t ht => .inr (by simp at ht; omega)))
          have HSZ := Lib.hid (show w.heap.size + 1 + 1 + 1 < wr.heap.size from (Array.getElem?_eq_some_iff.1 hlp).1)
          clear hb hlp hk hv hO hM hch hl2 hv2
          generalize wr.putObj (w.heap.size + 1 + 1 + 1) (.loop { rec .ready none with state := .busy }) = wB at HCH HL2 hO2 hvc hvf HV2 HB2 HK2 HM2 ⊢
          gi_wp2_with (gi_at_builtin; refine wpListIn_append_own _ rfl _ _ 92 rfl (w.heap.size + 1 + 1 + 1 + 1) 3 i0 (.int .i64 0) 1 8 Tryz.underlying92 hi hz0 hz1 hz2 rfl (by decide) (.slice va vn vc) pre.length (pre.map (Value.int .i64)) rfl (hO2.out.mod ((Mod.refl [] _).alloc _) (by simp)) ⟨wB.heap.size, 0, none⟩ 1 1 [.int .i64 k] rfl rfl (cell_one_new _ _ _) (by simp [Value.oneCell']) ?_ ?_ ?_ ?_)
          · unfold maxLen; omega
          · omega
          · have := HSZ.out; have := HCH.out.size; omega
          · intro v' w1 hown' hgrow _
            obtain ⟨g', cap', rfl⟩ := ownsRow_succ hown'
            have hS1 : wB.heap.size ≤ w1.heap.size := by have := hgrow.size; simp at this; omega
            have hrow : ∀ q, q < w.heap.size + 1 + 1 + 1 + 1 → q < wB.heap.size → w1.heap[q]? = wB.heap[q]? := fun q hq hqB =>
              (hgrow.block q (by simp; omega) (fun e => by have := hO2.out.own_ge q e.symm; omega)).trans (Below.heap_alloc _ _ _ hqB)
            have hMg : Mod [] w w1 := grown_from (HM2.out.alloc _) hgrow (fun q e => by have := hO2.out.own_ge q e; omega)
            have hv3 := (hrow w.heap.size (by omega) (by have := HSZ.out; have := HCH.out.size; omega)).trans HV2.out
            have hb3 := (hrow (w.heap.size + 1) (by omega) (by have := HSZ.out; have := HCH.out.size; omega)).trans HB2.out
            have hk3 := (hrow (w.heap.size + 1 + 1) (by omega) (by have := HSZ.out; have := HCH.out.size; omega)).trans HK2.out
            have hl3 := (hrow (w.heap.size + 1 + 1 + 1) (by omega) (by have := HSZ.out; have := HCH.out.size; omega)).trans HL2.out
            have hvc3 := cell_in hv3 (show (#[.slice va vn vc] : Array Value)[0]? = some (.slice va vn vc) from rfl)
            have hvf3 := free_in (j := 0) hv3
            have hO3 : Owned .i64 3 w1 (w.heap.size + 1 + 1 + 1 + 1) (.slice (some ⟨g', 0, none⟩) (pre.length + 1) cap') (pre ++ [(k : Int)]) := by
              unfold Owned
              simpa using hown'
            have H3 := Lib.hid (And.intro hMg (And.intro hv3 (And.intro hb3 (And.intro hk3 (And.intro hl3 hO3)))))
            clear hown' hgrow hrow hMg hv3 hb3 hk3 hl3 hO3
            gi_wp2
            obtain ⟨hMg, hv3, hb3, hk3, hl3, hO3⟩ := H3.out
            obtain ⟨wC, hwC⟩ : ∃ wC, w1.setCell ⟨w.heap.size, 0, none⟩ (.slice (some ⟨g', 0, none⟩) (pre.length + 1) cap') = wC := ⟨_, rfl⟩
            have hch : ∀ q, q ≠ w.heap.size → wC.heap[q]? = w1.heap[q]? := fun q hq => by rw [← hwC]; exact Below.heap_setCell _ _ _ _ (by simpa using hq)
            have hown : wC.heap[w.heap.size]? = some (.cells #[.slice (some ⟨g', 0, none⟩) (pre.length + 1) cap'] 92 (0, 0)) := by
              rw [← hwC]; exact Boxed.set (t := 92) (v := .slice va vn vc) _ hv3
            have hMC : Mod [w.heap.size] w1 wC := by rw [← hwC]; exact (Mod.refl _ _).setCell (by simp) _
            rw [hwC]
            have hlC : wC.heap[w.heap.size + 1 + 1 + 1]? = some (.loop { rec .ready none with state := .busy }) := (hch _ (by omega)).trans hl3
            refine ⟨hlC, ?_, ?_, ?_, ?_, ?_⟩
            · exact (World.putObj_heap_other (by omega)).trans ((hch _ (by omega)).trans hb3)
            · exact World.putObj_heap_same (Array.getElem?_eq_some_iff.1 hlC).1
            · exact (World.putObj_heap_other (by omega)).trans ((hch _ (by omega)).trans hk3)
            · refine ⟨_, _, _, (World.putObj_heap_other (by omega)).trans hown, ?_⟩
              refine (hO3.mod hMC (fun q e => by have := hO3.own_ge q e; simp; omega)).mod (S := [w.heap.size + 1 + 1 + 1]) ⟨rfl, rfl, rfl, by simp, fun q _ hq => World.putObj_heap_other (by simpa using hq)⟩ (fun q e => by have := hO3.own_ge q e; simp; omega)
            · exact (hMg.step hMC (fun t ht => .inr (by simp at ht; omega))).step (T := [w.heap.size + 1 + 1 + 1]) ⟨rfl, rfl, rfl, by simp, fun q _ hq => World.putObj_heap_other (by simpa using hq)⟩ (fun t ht => .inr (by simp at ht; omega))
      obtain ⟨fn', tmps', assign', body', hy, hR⟩ := hY
      gi_wp2_with (refine ⟨trivial, ?_⟩; gi_at_call 175; refine (callsIn_wide.2 HTZ.out).mono ?_; rintro e w' ⟨rfl, rfl⟩)
      refine hR.mono ?_
      rintro e W' ⟨rfl, hb, hlp, hk, ⟨va', vn', vc', hv, hO⟩, hM⟩
      have hbc' := cell_in hb (show (#[Value.int .u64 x] : Array Value)[0]? = some (.int .u64 x) from rfl)
      have hbf' := free_in (j := 0) hb
      have hx' := HREST.out.1
      have HH2 := Lib.hid (And.intro hb (And.intro hlp (And.intro hk (And.intro hv (And.intro hO hM)))))
      clear hb hlp hk hv hO hM hR
      gi_wp2
      go_roundw
      case rel =>
        obtain ⟨hb, hlp, hk, hv, hO, hM⟩ := HH2.out
        obtain ⟨wC, hwC⟩ : ∃ wC, W'.setCell ⟨w.heap.size + 1, 0, none⟩ (.int .u64 x') = wC := ⟨_, rfl⟩
        have hch : ∀ q, q ≠ w.heap.size + 1 → wC.heap[q]? = W'.heap[q]? := fun q hq => by rw [← hwC]; exact Below.heap_setCell _ _ _ _ (by simpa using hq)
        have hown : wC.heap[w.heap.size + 1]? = some (.cells #[.int .u64 x'] 22 (0, 0)) := by rw [← hwC]; exact Boxed.set (t := 22) (v := .int .u64 x) _ hb
        have hMC : Mod [w.heap.size + 1] W' wC := by rw [← hwC]; exact (Mod.refl _ _).setCell (by simp) _
        rw [hwC]
        exact ⟨pre ++ [(k : Int)], x', ks'', by rw [HKS.out]; simp, HREST.out.2.2.2, hown, (hch _ (by omega)).trans hlp, (hch _ (by omega)).trans hk, ⟨va', vn', vc', (hch _ (by omega)).trans hv, hO.mod hMC (fun q e => by have := hO.own_ge q e; simp; omega)⟩, hM.step hMC (fun t ht => .inr (by simp at ht; omega))⟩
      case measure =>
        rw [cell_set_same hbc', hbc]
        have := HREST.out
        simp [cellNat]
        omega

theorem blist_is (b : Int) (ks : List Int) (hB : Bits b ks) (hl : ks.length ≤ 64) (w : World) (ht : Tab w) : Calls Tryz.prog 85 #[.int .u64 b] w (BListPost w ks) :=
  callsIn_wide.1 (blist_in b ks hB hl w ht)

theorem bits_one : Bits 1 [0] := .cons (k := 0) (x' := 0) rfl (by decide) (by decide) (by decide) (by decide) (by decide) .nil

end Go.Proofs.YtpbamamplmbgjaaGreatDoor
