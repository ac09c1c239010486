/-
  The walk of a member's spread of one piece where it is alone (a range over slices.Chunk).
  The walk of a member's post: its one message, alone.
-/
import Derived.Test.YtaaaiggbnkeblaaGreatDoorMTopN
import Derived.Test.YtaaaiggbnkeblaaGreatDoorMBase
import Derived.Test.YtaaaiggbnkeblaaGreatDoorMTopNu
import Derived.Test.YtaaaiggbnkeblaaGreatDoorMDeskC
namespace Go.Proofs.YtaaaiggbnkeblaaGreatDoor
set_option linter.unusedSimpArgs false
set_option linter.unusedVariables false
open Go.RowKit Go.Shelf
attribute [local go_sem] Oper.semAt_some

set_option maxHeartbeats 2000000 in
theorem chunk_is (v : Value) (w : World) (h0 : ∃ a c, v = .slice a 1 c) : Calls Tryz.prog 268 #[v, .int .i64 6] w fun e w' =>
    e = .returned (.func (.func 298) #[] #[.pointer (some ⟨w.heap.size, 0, none⟩), .pointer (some ⟨w.heap.size + 1, 0, none⟩)]) ∧ (w.alloc (.cells #[v] 38)).alloc (.cells #[.int .i64 6] 3) = w' := by
  obtain ⟨a, c, rfl⟩ := h0
  have hmf : ∀ fn first cap w, (Instr.makeFunc fn first cap).run Tryz.prog w = .ok (.func fn first cap) w := fun _ _ _ _ => rfl
  go_enter Tryz.func268, Tryz.ntmps268
  go_wp2
  go_ret
  exact ⟨rfl, rfl⟩

set_option maxRecDepth 100000 in
set_option maxHeartbeats 4000000 in
theorem nspread1_in (N D K S g cap : Nat) (ev : Value) (was : Int) (w : World) (h : NodeAt w N D K (some ⟨S, 0, none⟩) ev was) (hs : w.cell? ⟨S, 1, none⟩ = some (.int .u64 1)) (ht : Tab w) (hcap : 1 ≤ cap) :
    CallsIn Fence.wide 3 Tryz.prog 216 #[.pointer (some ⟨N, 0, none⟩), .slice (some ⟨g, 0, none⟩) 1 cap] w fun e w' => e = .returned (.slice none 0 0) ∧ Mod [] w w' := by
  have HN := Lib.hid h
  have HS := Lib.hid hs
  have HT := Lib.hid ht
  clear h hs ht
  refine callsIn_of_wp_marks Tryz.func216 rfl trivial ?_ rfl
  simp only [Tryz.ntmps216, List.size_toArray, List.length_cons, List.length_nil, Nat.reduceAdd, Nat.reduceSub, Array.replicate_succ, Array.replicate_zero, List.push_toArray, List.append_toArray, List.nil_append, List.cons_append]
  gi_wp2_with (refine ⟨trivial, ?_⟩; gi_at_call 268; refine (callsIn_wide.2 (chunk_is _ _ ⟨_, _, rfl⟩)).mono ?_; rintro e w' ⟨rfl, rfl⟩)
  refine range_open rfl (by omega) (gf := 298) (lb := #[.pointer (some ⟨w.heap.size + 1 + 1, 0, none⟩), .pointer (some ⟨w.heap.size + 1 + 1 + 1, 0, none⟩)]) rfl trivial (enters_of Tryz.func298 (by kernel_rfl) rfl) ?_
  intro fn rec hfn hrec
  have HREC := Lib.hid hrec
  clear hrec
  obtain ⟨W0, hW0⟩ : ∃ W0, ((((((w.alloc (.cells #[.pointer (some ⟨N, 0, none⟩)] 95)).alloc (.cells #[.slice none 0 0] 30)).alloc (.cells #[.slice (some ⟨g, 0, none⟩) 1 cap] 38)).alloc (.cells #[.int .i64 6] 3)).alloc (.deferred (some []))).alloc (.loop (rec .ready none))) = W0 := ⟨_, rfl⟩
  have hl0 : W0.heap[w.heap.size + 1 + 1 + 1 + 1 + 1]? = some (.loop (rec .ready none)) := by rw [← hW0]; exact heap_at _ _ _ (by simp)
  have hk0 : W0.heap[w.heap.size + 1 + 1 + 1 + 1]? = some (.deferred (some [])) := by
    rw [← hW0, Below.heap_alloc _ _ _ (by simp <;> omega)]; exact heap_at _ _ _ (by simp)
  have hb0 : W0.heap[w.heap.size + 1 + 1 + 1]? = some (.cells #[.int .i64 6] 3 (0, 0)) := by
    rw [← hW0, Below.heap_alloc _ _ _ (by simp <;> omega), Below.heap_alloc _ _ _ (by simp <;> omega)]; exact heap_at _ _ _ (by simp)
  have hs0 : W0.heap[w.heap.size + 1 + 1]? = some (.cells #[.slice (some ⟨g, 0, none⟩) 1 cap] 38 (0, 0)) := by
    rw [← hW0, Below.heap_alloc _ _ _ (by simp <;> omega), Below.heap_alloc _ _ _ (by simp <;> omega), Below.heap_alloc _ _ _ (by simp <;> omega)]; exact heap_at _ _ _ (by simp)
  have hr0 : W0.heap[w.heap.size + 1]? = some (.cells #[.slice none 0 0] 30 (0, 0)) := by
    rw [← hW0, Below.heap_alloc _ _ _ (by simp <;> omega), Below.heap_alloc _ _ _ (by simp <;> omega), Below.heap_alloc _ _ _ (by simp <;> omega), Below.heap_alloc _ _ _ (by simp <;> omega)]; exact heap_at _ _ _ (by simp)
  have hp0 : W0.heap[w.heap.size]? = some (.cells #[.pointer (some ⟨N, 0, none⟩)] 95 (0, 0)) := by
    rw [← hW0, Below.heap_alloc _ _ _ (by simp <;> omega), Below.heap_alloc _ _ _ (by simp <;> omega), Below.heap_alloc _ _ _ (by simp <;> omega), Below.heap_alloc _ _ _ (by simp <;> omega), Below.heap_alloc _ _ _ (by simp <;> omega)]; exact heap_new _ _
  have hm0 : Mod [] w W0 := by rw [← hW0]; exact ((((((Mod.refl [] w).alloc _).alloc _).alloc _).alloc _).alloc _).alloc _
  rw [hW0]
  have HM0 := Lib.hid hm0
  have HF := Lib.hid (And.intro hl0 (And.intro hk0 (And.intro hr0 hp0)))
  have b6 := cell_in hb0 (show (#[Value.int .i64 6] : Array Value)[0]? = some (.int .i64 6) from rfl)
  have bs := cell_in hs0 (show (#[Value.slice (some ⟨g, 0, none⟩) 1 cap] : Array Value)[0]? = some (.slice (some ⟨g, 0, none⟩) 1 cap) from rfl)
  clear hW0 hl0 hk0 hb0 hs0 hr0 hp0 hm0
  refine callsIn_of_wp Tryz.func298 rfl trivial ?_ rfl
  simp only [Tryz.ntmps298, World.size_alloc, List.size_toArray, List.length_cons, List.length_nil, Nat.reduceAdd, Nat.reduceSub, Array.replicate_succ, Array.replicate_zero, List.push_toArray, List.append_toArray, List.nil_append, List.cons_append]
  gi_wp2
  refine wpIn_loop_rounds 2 ?_
  rw [roundsIn_succ]
  gi_wp2
  gi_region
  have hY : YieldAt Fence.wide 1 Tryz.prog (w.heap.size + 1 + 1 + 1 + 1 + 1) #[.slice (some ⟨g, 0, none⟩) 1 1] W0.drew (fun e W' => e = .returned (.bool true) ∧ W'.heap[w.heap.size + 1 + 1 + 1 + 1 + 1]? = some (.loop (rec .ready none)) ∧ Mod [w.heap.size + 1 + 1 + 1 + 1 + 1] W0 W') := by
    obtain ⟨hl0, hk0, hr0, hp0⟩ := HF.out
    have hlp : W0.drew.heap[w.heap.size + 1 + 1 + 1 + 1 + 1]? = some (.loop (rec .ready none)) := hl0
    refine round_open trivial HREC.out hlp rfl { tmps := #[.pointer (some ⟨N, 0, none⟩), .slice (some ⟨g, 0, none⟩) 1 cap, .pointer (some ⟨w.heap.size, 0, none⟩), undef, .pointer (some ⟨w.heap.size + 1, 0, none⟩), .slice (some ⟨g, 0, none⟩) 1 1, undef, undef, .slice (some ⟨g, 0, none⟩) 1 cap,
      .func (.func 298) #[] #[.pointer (some ⟨w.heap.size + 1 + 1, 0, none⟩), .pointer (some ⟨w.heap.size + 1 + 1 + 1, 0, none⟩)], .slice (some ⟨g, 0, none⟩) 1 1, undef, undef, undef, undef, undef, undef, undef, undef, undef, undef, undef, undef, undef, undef, undef, undef, undef], defers := [] } ?_ ?_
    · intro K hK
      gi_wp2
      exact hK
    · have hch : Mod [w.heap.size + 1 + 1 + 1 + 1 + 1] W0 (W0.drew.putObj (w.heap.size + 1 + 1 + 1 + 1 + 1) (.loop { rec .ready none with state := .busy })) := ⟨rfl, rfl, rfl, by simp, fun k _ hk => World.putObj_heap_other (by simpa using hk)⟩
      have hl2 : (W0.drew.putObj (w.heap.size + 1 + 1 + 1 + 1 + 1) (.loop { rec .ready none with state := .busy })).heap[w.heap.size + 1 + 1 + 1 + 1 + 1]? = some (.loop { rec .ready none with state := .busy }) := World.putObj_heap_same (Array.getElem?_eq_some_iff.1 hlp).1
      have hpb := (hch.block _ (Array.getElem?_eq_some_iff.1 hp0).1 (by simp <;> omega)).trans hp0
      have hcp := cell_in hpb (show (#[Value.pointer (some ⟨N, 0, none⟩)] : Array Value)[0]? = some (.pointer (some ⟨N, 0, none⟩)) from rfl)
      have hwB : ∀ b, b < w.heap.size → b ∉ [w.heap.size + 1 + 1 + 1 + 1 + 1] := fun b hb => by simp; omega
      have HNB := Lib.hid ((HN.out.mod HM0.out (by simp)).mod hch (hwB N HN.out.lt))
      have HSB := Lib.hid (hch.at (HM0.out.at HS.out (by simp)) (hwB S (cell_lt' HS.out)))
      have HTB := Lib.hid ((HT.out.mod HM0.out (by simp)).mod hch (hwB 1 HT.out.1))
      have HL2 := Lib.hid hl2
      have HCH := Lib.hid hch
      clear hl0 hk0 hr0 hp0 hlp hch hl2 hpb hwB b6 bs
      generalize W0.drew.putObj (w.heap.size + 1 + 1 + 1 + 1 + 1) (.loop { rec .ready none with state := .busy }) = wB at HNB HSB HTB HL2 HCH hcp ⊢
      gi_wp2_with (refine ⟨trivial, ?_⟩; gi_at_call 164; refine ((callsIn_wide.2 (nothers0 N D K S ev was _ HNB.out HSB.out HTB.out)).inRound _).mono ?_; rintro e w' ⟨⟨a5, c5, rfl⟩, hM5⟩; have HM5 := Lib.hid hM5; clear hM5)
      refine wpIn_loop_rounds 1 ?_
      rw [roundsIn_succ]
      gi_wp2
      have hl5 : w'.heap[w.heap.size + 1 + 1 + 1 + 1 + 1]? = some (.loop { rec .ready none with state := .busy }) := (HM5.out.block _ (Array.getElem?_eq_some_iff.1 HL2.out).1 (by simp)).trans HL2.out
      refine ⟨hl5, World.putObj_heap_same (Array.getElem?_eq_some_iff.1 hl5).1, ?_⟩
      exact (HCH.out.trans (HM5.out.mono (by simp))).trans ⟨rfl, rfl, rfl, by simp, fun k _ hk => World.putObj_heap_other (by simpa using hk)⟩
  obtain ⟨fn', tmps', assign', body', hy, hR⟩ := hY
  have HR := Lib.hid hR
  clear hR
  gi_wp2
  refine HR.out.mono ?_
  rintro e W' ⟨rfl, hlp, hM⟩
  have c6 := hM.at b6 (by simp <;> omega)
  have cs := hM.at bs (by simp <;> omega)
  have HH := Lib.hid (And.intro hlp hM)
  clear hlp hM b6 bs hy
  gi_wp2
  rw [roundsIn_succ]
  gi_wp2
  go_end0
  obtain ⟨hlp, hM⟩ := HH.out
  obtain ⟨hl0, hk0, hr0, hp0⟩ := HF.out
  have hready : (rec .ready none).state ≠ .busy := by rw [HREC.out]; simp
  have hpend : (rec .ready none).pending = none := by rw [HREC.out]
  obtain ⟨o', hend⟩ : ∃ o', (Instr.endLoop (w.heap.size + 1 + 1 + 1 + 1 + 1)).run Tryz.prog W' = .ok none (W'.putObj (w.heap.size + 1 + 1 + 1 + 1 + 1) o') := ⟨_, (run_endLoop hlp hready).trans (by rw [hpend])⟩
  refine ⟨none, _, hend, ?_⟩
  have hM2 : Mod [w.heap.size + 1 + 1 + 1 + 1 + 1] W0 (W'.putObj (w.heap.size + 1 + 1 + 1 + 1 + 1) o') := hM.trans ⟨rfl, rfl, rfl, by simp, fun k _ hk => World.putObj_heap_other (by simpa using hk)⟩
  have hr2 := (hM2.block _ (Array.getElem?_eq_some_iff.1 hr0).1 (by simp <;> omega)).trans hr0
  have hk2 := (hM2.block _ (Array.getElem?_eq_some_iff.1 hk0).1 (by simp <;> omega)).trans hk0
  have hrc := cell_in hr2 (show (#[Value.slice none 0 0] : Array Value)[0]? = some (.slice none 0 0) from rfl)
  have hrf := free_in (j := 0) hr2
  have HE := Lib.hid hM2
  clear hlp hM hl0 hk0 hr0 hp0 hM2 hend
  generalize W'.putObj (w.heap.size + 1 + 1 + 1 + 1 + 1) o' = wE at hr2 hk2 hrc hrf HE ⊢
  have hs2 : (wE.setCell ⟨w.heap.size + 1, 0, none⟩ (.slice none 0 0)).heap[w.heap.size + 1 + 1 + 1 + 1]? = some (.deferred (some [])) := (Below.heap_setCell _ _ _ _ (by simp <;> omega)).trans hk2
  have HK2 := Lib.hid hs2
  have HRC := Lib.hid hrc
  clear hr2 hk2 hs2
  gi_wp2
  refine ⟨by simp, .inl ⟨_, _, rfl, run_takeDeferred HK2.out, ?_⟩⟩
  have hch : Mod [w.heap.size + 1, w.heap.size + 1 + 1 + 1 + 1] wE ((wE.setCell ⟨w.heap.size + 1, 0, none⟩ (.slice none 0 0)).putObj (w.heap.size + 1 + 1 + 1 + 1) (.deferred none)) := ⟨rfl, rfl, rfl, by simp [World.setCell], fun k _ hk => (World.putObj_heap_other (by simp at hk; omega)).trans (Below.heap_setCell _ _ _ _ (by simp at hk ⊢; omega))⟩
  have hfin : ((wE.setCell ⟨w.heap.size + 1, 0, none⟩ (.slice none 0 0)).putObj (w.heap.size + 1 + 1 + 1 + 1) (.deferred none)).cell? ⟨w.heap.size + 1, 0, none⟩ = some (.slice none 0 0) :=
    (World.cell?_of_block (w := wE.setCell ⟨w.heap.size + 1, 0, none⟩ (.slice none 0 0)) (World.putObj_heap_other (by simp <;> omega))).trans (cell_set_same HRC.out)
  refine ⟨_, results_word rfl _ _ ⟨w.heap.size + 1, 0, none⟩ _ rfl Tryz.underlying30 hfin, ?_⟩
  exact ⟨rfl, (HM0.out.step HE.out (fun t ht => .inr (by simp at ht; omega))).step hch (fun t ht => .inr (by simp at ht; omega))⟩

theorem nspread1 (N D K S g cap : Nat) (ev : Value) (was : Int) (w : World) (h : NodeAt w N D K (some ⟨S, 0, none⟩) ev was) (hs : w.cell? ⟨S, 1, none⟩ = some (.int .u64 1)) (ht : Tab w) (hcap : 1 ≤ cap) :
    Calls Tryz.prog 216 #[.pointer (some ⟨N, 0, none⟩), .slice (some ⟨g, 0, none⟩) 1 cap] w fun e w' => e = .returned (.slice none 0 0) ∧ Mod [] w w' :=
  callsIn_wide.1 (nspread1_in N D K S g cap ev was w h hs ht hcap)

end Go.Proofs.YtaaaiggbnkeblaaGreatDoor

namespace Go.Proofs.YtaaaiggbnkeblaaGreatDoor
set_option linter.unusedSimpArgs false
set_option linter.unusedVariables false
open Go.RowKit

def WaitsOne (w : World) (t : ByteArray) (e : Ending) (w' : World) : Prop := ∃ g c, e = .returned (.slice (some ⟨g, 0, none⟩) 1 c) ∧ w'.rangeAt g 0 (mcells (0, 1, t)) ∧ w.heap.size ≤ g ∧ Mod [] w w'
theorem waits_one (K : Nat) (most : Int) (t : ByteArray) (w : World) (h : DeskAt w K 0 1 [(0, 1, t)]) (hm : 1 ≤ most) :
    Calls Tryz.prog 207 #[.pointer (some ⟨K, 0, none⟩), .int .i64 most] w (WaitsOne w t) := by
  refine (waits_any K 0 1 [(0, 1, t)] most 1 w h (by simp; omega)).mono ?_
  rintro e w' ⟨v, rfl, hO, hM⟩
  have hO : OwnMs w' w.heap.size v [(0, 1, t)] := hO
  obtain ⟨a, c, rfl, hr, _, _, _, hB⟩ := hO.shape
  obtain ⟨g, o, rfl, _, hc⟩ := hr (by simp)
  obtain ⟨g', he, hg⟩ := hB _ rfl
  cases he
  exact ⟨g, c, rfl, by simpa [flat] using hc, hg, hM⟩

def PostPost (w : World) (N D K r S H T L R : Nat) (ev : Value) (now num : Int) (Q : List M) (done quiet : Int) (re : Array MapEntry) (rc : Nat) (t : ByteArray) (e : Ending) (w' : World) : Prop :=
  ∃ C m sz lf lsz f, e = .returned (.slice none 0 0) ∧ Alone w' N D K r S H T L R C m ev now num Q 1 done quiet 0 (putP (fun _ => p0) 1 (1, (0, 1, t))) 2 f sz lf lsz re rc ∧ Mod [S, L, H] w w'

set_option maxRecDepth 100000 in
set_option maxHeartbeats 8000000 in
theorem npost1 (N D K r S H T L R C m : Nat) (ev : Value) (now : Int) (done quiet : Int) (sz : Nat) (re : Array MapEntry) (rc : Nat) (t : ByteArray) (w : World)
    (h : Alone w N D K r S H T L R C m ev now 1 [(0, 1, t)] 0 done quiet 0 (fun _ => p0) 1 (fun _ => none) sz (fun _ => none) 0 re rc) (ht : t.size ≤ 64) :
    Calls Tryz.prog 163 #[.pointer (some ⟨N, 0, none⟩)] w (PostPost w N D K r S H T L R ev now 1 [(0, 1, t)] done quiet re rc t) := by
  have hpn : ∀ (a : Addr) (w : World), (binOp .neq 230 (.pointer (some a)) (.pointer none)).run Tryz.prog w = .ok (.bool true) w := fun a w => by kernel_rfl
  have HA := Lib.hid h
  have HT := Lib.hid ht
  have c4 := h.node.c4
  clear h ht
  go_enter Tryz.func163, Tryz.ntmps163
  go_wp2_with fail
  refine (waits_one K 6 t _ HA.out.desk (by decide)).mono ?_
  rintro e w1 ⟨g1, k1, rfl, _, _, hM1⟩
  replace HA := Lib.hid (HA.out.mod0 hM1)
  have HM := Lib.hid hM1
  clear hM1 c4
  have s3 : w1.cell? ⟨S, 3, none⟩ = some (.pointer (some ⟨T, 0, none⟩)) := HA.out.sit.2.1 3 _ rfl
  go_wp2_with fail
  refine (nfrozen0 N D K S T ev 1 0 1 1 _ HA.out.node s3 HA.out.turn).mono ?_
  rintro e w2 ⟨rfl, hM2⟩
  replace HA := Lib.hid (HA.out.mod0 hM2)
  replace HM := Lib.hid (HM.out.trans hM2)
  clear hM2 s3
  have c0 := HA.out.node.c0
  have s4 : w2.cell? ⟨S, 4, none⟩ = some (.pointer (some ⟨C, 0, none⟩)) := HA.out.sit.2.1 4 _ rfl
  go_wp2_with fail
  clear s4
  have c2 := HA.out.node.c2
  have c4 := HA.out.node.c4
  have s8 : w2.cell? ⟨S, 8, none⟩ = some (.int .u64 0) := HA.out.sit.2.1 8 _ rfl
  have hl := HA.out.lts
  have HLT := Lib.hid (show S < w2.heap.size ∧ L < w2.heap.size ∧ H < w2.heap.size from ⟨hl.1.2.2.2.2.1, hl.1.2.2.2.2.2.2.2.1, hl.1.2.2.2.2.2.1⟩)
  clear hl
  go_region_held3 (fun w' => w'.cell? ⟨N, 0, none⟩ = some (.pointer (some ⟨S, 0, none⟩)) ∧ w'.cell? ⟨N, 2, none⟩ = some (.int .i64 0) ∧ w'.cell? ⟨N, 4, none⟩ = some (.pointer (some ⟨K, 0, none⟩)) ∧ w'.cell? ⟨S, 8, none⟩ = some (.int .u64 0)) (first | exact ⟨c0, c2, c4, s8⟩ | exact ⟨HA7.out.node.c0, HA7.out.node.c2, HA7.out.node.c4, HA7.out.sit.2.1 8 _ rfl⟩ | exact ⟨HA5.out.node.c0, HA5.out.node.c2, HA5.out.node.c4, HA5.out.sit.2.1 8 _ rfl⟩ | exact ⟨HM3.out.at c0 (by simp), HM3.out.at c2 (by simp), HM3.out.at c4 (by simp), HM3.out.at s8 (by simp)⟩) ((first | (go_at_call 207; refine (waits_one K 8 t _ (HA.out.desk.mod (Mod.refl [] _).drew (by simp)) (by decide)).mono ?_; rintro e w3 ⟨g3, k3, rfl, hr3, hg3, hM3⟩; have HM3 := Lib.hid ((Mod.refl [] w2).drew.trans hM3); have HR3 := Lib.hid (And.intro hr3 hg3); clear hr3 hg3 hM3) | (go_at_call 217; refine (nnumber1 N D K r S H T L R C m ev now 1 [(0, 1, t)] done quiet sz re rc g3 k3 t _ (HA.out.mod0 HM3.out) HR3.out.1 (by have h1 := HLT.out; have h2 := HR3.out.2; simp at h2 ⊢; omega) HT.out).mono ?_; rintro e w5 ⟨C5, m5, sz5, lf5, lsz5, f5, g5, k5, rfl, hk5, ha5, hM5⟩; have HA5 := Lib.hid ha5; have HK5 := Lib.hid hk5; have HM5 := Lib.hid ((HM3.out.wide (by simp)).trans hM5); clear ha5 hk5 hM5) | (go_at_call 216; refine (nspread1 N D K S g5 k5 ev 1 _ HA5.out.node (HA5.out.sit.2.1 1 _ rfl) HA5.out.tab HK5.out).mono ?_; rintro e w7 ⟨rfl, hM7⟩; have HM6 := Lib.hid hM7; have HA7 := Lib.hid (HA5.out.mod0 hM7); clear hM7)))
  go_wp2
  go_ret
  exact ⟨C5, m5, sz5, lf5, lsz5, f5, rfl, HA7.out, (HM.out.wide (by simp)).trans (HM5.out.trans (HM6.out.wide (by simp)))⟩

end Go.Proofs.YtaaaiggbnkeblaaGreatDoor
