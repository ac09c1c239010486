/-
  The walk of a member's spread of one piece where it is alone (a range over slices.Chunk).
-/
import Derived.Test.YtpbamamplmbgjaaGreatDoorTopL
import Derived.Test.YtpbamamplmbgjaaGreatDoorTopR
namespace Go.Proofs.YtpbamamplmbgjaaGreatDoor
set_option linter.unusedSimpArgs false
set_option linter.unusedVariables false
open Go.RowKit Go.Shelf
attribute [local go_sem] Oper.semAt_some

set_option maxHeartbeats 2000000 in
theorem chunk_is (v : Value) (w : World) (h0 : ∃ a c, v = .slice a 1 c) : Calls Tryz.prog 288 #[v, .int .i64 6] w fun e w' =>
    e = .returned (.func (.func 312) #[] #[.pointer (some ⟨w.heap.size, 0, none⟩), .pointer (some ⟨w.heap.size + 1, 0, none⟩)]) ∧ (w.alloc (.cells #[v] 67)).alloc (.cells #[.int .i64 6] 3) = w' := by
  obtain ⟨a, c, rfl⟩ := h0
  have hmf : ∀ fn first cap w, (Instr.makeFunc fn first cap).run Tryz.prog w = .ok (.func fn first cap) w := fun _ _ _ _ => rfl
  go_enter Tryz.func288, Tryz.ntmps288
  go_wp2
  go_ret
  exact ⟨rfl, rfl⟩

set_option maxRecDepth 100000 in
set_option maxHeartbeats 4000000 in
theorem nspread1_in (N D K S g cap : Nat) (ev : Value) (was : Int) (w : World) (h : NodeAt w N D K (some ⟨S, 0, none⟩) ev was) (hs : w.cell? ⟨S, 1, none⟩ = some (.int .u64 1)) (ht : Tab w) (hcap : 1 ≤ cap) :
    CallsIn Fence.wide 3 Tryz.prog 250 #[.pointer (some ⟨N, 0, none⟩), .slice (some ⟨g, 0, none⟩) 1 cap] w fun e w' => e = .returned (.slice none 0 0) ∧ Mod [] w w' := by
  have HN := Lib.hid h
  have HS := Lib.hid hs
  have HT := Lib.hid ht
  clear h hs ht
  refine callsIn_of_wp_marks Tryz.func250 rfl trivial ?_ rfl
  simp only [Tryz.ntmps250, List.size_toArray, List.length_cons, List.length_nil, Nat.reduceAdd, Nat.reduceSub, Array.replicate_succ, Array.replicate_zero, List.push_toArray, List.append_toArray, List.nil_append, List.cons_append]
  gi_wp2_with (refine ⟨trivial, ?_⟩; gi_at_call 288; refine (callsIn_wide.2 (chunk_is _ _ ⟨_, _, rfl⟩)).mono ?_; rintro e w' ⟨rfl, rfl⟩)
  refine range_open rfl (by omega) (gf := 312) (lb := #[.pointer (some ⟨w.heap.size + 1 + 1, 0, none⟩), .pointer (some ⟨w.heap.size + 1 + 1 + 1, 0, none⟩)]) rfl trivial (enters_of Tryz.func312 (by kernel_rfl) rfl) ?_
  intro fn rec hfn hrec
  have HREC := Lib.hid hrec
  clear hrec
  obtain ⟨W0, hW0⟩ : ∃ W0, ((((((w.alloc (.cells #[.pointer (some ⟨N, 0, none⟩)] 106)).alloc (.cells #[.slice none 0 0] 61)).alloc (.cells #[.slice (some ⟨g, 0, none⟩) 1 cap] 67)).alloc (.cells #[.int .i64 6] 3)).alloc (.deferred (some []))).alloc (.loop (rec .ready none))) = W0 := ⟨_, rfl⟩
  have hl0 : W0.heap[w.heap.size + 1 + 1 + 1 + 1 + 1]? = some (.loop (rec .ready none)) := by rw [← hW0]; exact heap_at _ _ _ (by simp)
  have hk0 : W0.heap[w.heap.size + 1 + 1 + 1 + 1]? = some (.deferred (some [])) := by
    rw [← hW0, Below.heap_alloc _ _ _ (by simp <;> omega)]; exact heap_at _ _ _ (by simp)
  have hb0 : W0.heap[w.heap.size + 1 + 1 + 1]? = some (.cells #[.int .i64 6] 3 (0, 0)) := by
    rw [← hW0, Below.heap_alloc _ _ _ (by simp <;> omega), Below.heap_alloc _ _ _ (by simp <;> omega)]; exact heap_at _ _ _ (by simp)
  have hs0 : W0.heap[w.heap.size + 1 + 1]? = some (.cells #[.slice (some ⟨g, 0, none⟩) 1 cap] 67 (0, 0)) := by
    rw [← hW0, Below.heap_alloc _ _ _ (by simp <;> omega), Below.heap_alloc _ _ _ (by simp <;> omega), Below.heap_alloc _ _ _ (by simp <;> omega)]; exact heap_at _ _ _ (by simp)
  have hr0 : W0.heap[w.heap.size + 1]? = some (.cells #[.slice none 0 0] 61 (0, 0)) := by
    rw [← hW0, Below.heap_alloc _ _ _ (by simp <;> omega), Below.heap_alloc _ _ _ (by simp <;> omega), Below.heap_alloc _ _ _ (by simp <;> omega), Below.heap_alloc _ _ _ (by simp <;> omega)]; exact heap_at _ _ _ (by simp)
  have hp0 : W0.heap[w.heap.size]? = some (.cells #[.pointer (some ⟨N, 0, none⟩)] 106 (0, 0)) := by
    rw [← hW0, Below.heap_alloc _ _ _ (by simp <;> omega), Below.heap_alloc _ _ _ (by simp <;> omega), Below.heap_alloc _ _ _ (by simp <;> omega), Below.heap_alloc _ _ _ (by simp <;> omega), Below.heap_alloc _ _ _ (by simp <;> omega)]; exact heap_new _ _
  have hm0 : Mod [] w W0 := by rw [← hW0]; exact ((((((Mod.refl [] w).alloc _).alloc _).alloc _).alloc _).alloc _).alloc _
  rw [hW0]
  have HM0 := Lib.hid hm0
  have HF := Lib.hid (And.intro hl0 (And.intro hk0 (And.intro hr0 hp0)))
  have b6 := cell_in hb0 (show (#[Value.int .i64 6] : Array Value)[0]? = some (.int .i64 6) from rfl)
  have bs := cell_in hs0 (show (#[Value.slice (some ⟨g, 0, none⟩) 1 cap] : Array Value)[0]? = some (.slice (some ⟨g, 0, none⟩) 1 cap) from rfl)
  clear hW0 hl0 hk0 hb0 hs0 hr0 hp0 hm0
  refine callsIn_of_wp Tryz.func312 rfl trivial ?_ rfl
  simp only [Tryz.ntmps312, World.size_alloc, List.size_toArray, List.length_cons, List.length_nil, Nat.reduceAdd, Nat.reduceSub, Array.replicate_succ, Array.replicate_zero, List.push_toArray, List.append_toArray, List.nil_append, List.cons_append]
  gi_wp2
  refine wpIn_loop_rounds 2 ?_
  rw [roundsIn_succ]
  gi_wp2
  gi_region
  have hY : YieldAt Fence.wide 1 Tryz.prog (w.heap.size + 1 + 1 + 1 + 1 + 1) #[.slice (some ⟨g, 0, none⟩) 1 1] W0.drew (fun e W' => e = .returned (.bool true) ∧ W'.heap[w.heap.size + 1 + 1 + 1 + 1 + 1]? = some (.loop (rec .ready none)) ∧ Mod [w.heap.size + 1 + 1 + 1 + 1 + 1] W0 W') := by
    obtain ⟨hl0, hk0, hr0, hp0⟩ := HF.out
    have hlp : W0.drew.heap[w.heap.size + 1 + 1 + 1 + 1 + 1]? = some (.loop (rec .ready none)) := hl0
    refine round_open trivial HREC.out hlp rfl { tmps := #[.pointer (some ⟨N, 0, none⟩), .slice (some ⟨g, 0, none⟩) 1 cap, .pointer (some ⟨w.heap.size, 0, none⟩), undef, .pointer (some ⟨w.heap.size + 1, 0, none⟩), .slice (some ⟨g, 0, none⟩) 1 1, undef, undef, .slice (some ⟨g, 0, none⟩) 1 cap,
      .func (.func 312) #[] #[.pointer (some ⟨w.heap.size + 1 + 1, 0, none⟩), .pointer (some ⟨w.heap.size + 1 + 1 + 1, 0, none⟩)], .slice (some ⟨g, 0, none⟩) 1 1, undef, undef, undef, undef, undef, undef, undef, undef, undef, undef, undef, undef, undef, undef, undef, undef, undef], defers := [] } ?_ ?_
    · intro K hK
      gi_wp2
      exact hK
    · have hch : Mod [w.heap.size + 1 + 1 + 1 + 1 + 1] W0 (W0.drew.putObj (w.heap.size + 1 + 1 + 1 + 1 + 1) (.loop { rec .ready none with state := .busy })) := ⟨rfl, rfl, rfl, by simp, fun k _ hk => World.putObj_heap_other (by simpa using hk)⟩
      have hl2 : (W0.drew.putObj (w.heap.size + 1 + 1 + 1 + 1 + 1) (.loop { rec .ready none with state := .busy })).heap[w.heap.size + 1 + 1 + 1 + 1 + 1]? = some (.loop { rec .ready none with state := .busy }) := World.putObj_heap_same (Array.getElem?_eq_some_iff.1 hlp).1
      have hpb := (hch.block _ (Array.getElem?_eq_some_iff.1 hp0).1 (by simp <;> omega)).trans hp0
      have hcp := cell_in hpb (show (#[Value.pointer (some ⟨N, 0, none⟩)] : Array Value)[0]? = some (.pointer (some ⟨N, 0, none⟩)) from rfl)
      have hwB : ∀ b, b < w.heap.size → b ∉ [w.heap.size + 1 + 1 + 1 + 1 + 1] := fun b hb => by simp; omega
      have HNB := Lib.hid ((HN.out.mod HM0.out (by simp)).mod hch (hwB N HN.out.lt))
      have HSB := Lib.hid (hch.at (HM0.out.at HS.out (by simp)) (hwB S (cell_lt' HS.out)))
      have HTB := Lib.hid ((HT.out.mod HM0.out (by simp)).mod hch (hwB 1 HT.out.1))
      have HL2 := Lib.hid hl2
      have HCH := Lib.hid hch
      clear hl0 hk0 hr0 hp0 hlp hch hl2 hpb hwB b6 bs
      generalize W0.drew.putObj (w.heap.size + 1 + 1 + 1 + 1 + 1) (.loop { rec .ready none with state := .busy }) = wB at HNB HSB HTB HL2 HCH hcp ⊢
      gi_wp2_with (refine ⟨trivial, ?_⟩; gi_at_call 186; refine ((callsIn_wide.2 (nothers0 N D K S ev was _ HNB.out HSB.out HTB.out)).inRound _).mono ?_; rintro e w' ⟨⟨a5, c5, rfl⟩, hM5⟩; have HM5 := Lib.hid hM5; clear hM5)
      refine wpIn_loop_rounds 1 ?_
      rw [roundsIn_succ]
      gi_wp2
      have hl5 : w'.heap[w.heap.size + 1 + 1 + 1 + 1 + 1]? = some (.loop { rec .ready none with state := .busy }) := (HM5.out.block _ (Array.getElem?_eq_some_iff.1 HL2.out).1 (by simp)).trans HL2.out
      refine ⟨hl5, World.putObj_heap_same (Array.getElem?_eq_some_iff.1 hl5).1, ?_⟩
      exact (HCH.out.trans (HM5.out.mono (by simp))).trans ⟨rfl, rfl, rfl, by simp, fun k _ hk => World.putObj_heap_other (by simpa using hk)⟩
  obtain ⟨fn', tmps', assign', body', hy, hR⟩ := hY
  have HR := Lib.hid hR
  clear hR
  gi_wp2
  refine HR.out.mono ?_
  rintro e W' ⟨rfl, hlp, hM⟩
  have c6 := hM.at b6 (by simp <;> omega)
  have cs := hM.at bs (by simp <;> omega)
  have HH := Lib.hid (And.intro hlp hM)
  clear hlp hM b6 bs hy
  gi_wp2
  rw [roundsIn_succ]
  gi_wp2
  go_end0
  obtain ⟨hlp, hM⟩ := HH.out
  obtain ⟨hl0, hk0, hr0, hp0⟩ := HF.out
  have hready : (rec .ready none).state ≠ .busy := by rw [HREC.out]; simp
  have hpend : (rec .ready none).pending = none := by rw [HREC.out]
  obtain ⟨o', hend⟩ : ∃ o', (Instr.endLoop (w.heap.size + 1 + 1 + 1 + 1 + 1)).run Tryz.prog W' = .ok none (W'.putObj (w.heap.size + 1 + 1 + 1 + 1 + 1) o') := ⟨_, (run_endLoop hlp hready).trans (by rw [hpend])⟩
  refine ⟨none, _, hend, ?_⟩
  have hM2 : Mod [w.heap.size + 1 + 1 + 1 + 1 + 1] W0 (W'.putObj (w.heap.size + 1 + 1 + 1 + 1 + 1) o') := hM.trans ⟨rfl, rfl, rfl, by simp, fun k _ hk => World.putObj_heap_other (by simpa using hk)⟩
  have hr2 := (hM2.block _ (Array.getElem?_eq_some_iff.1 hr0).1 (by simp <;> omega)).trans hr0
  have hk2 := (hM2.block _ (Array.getElem?_eq_some_iff.1 hk0).1 (by simp <;> omega)).trans hk0
  have hrc := cell_in hr2 (show (#[Value.slice none 0 0] : Array Value)[0]? = some (.slice none 0 0) from rfl)
  have hrf := free_in (j := 0) hr2
  have HE := Lib.hid hM2
  clear hlp hM hl0 hk0 hr0 hp0 hM2 hend
  generalize W'.putObj (w.heap.size + 1 + 1 + 1 + 1 + 1) o' = wE at hr2 hk2 hrc hrf HE ⊢
  have hs2 : (wE.setCell ⟨w.heap.size + 1, 0, none⟩ (.slice none 0 0)).heap[w.heap.size + 1 + 1 + 1 + 1]? = some (.deferred (some [])) := (Below.heap_setCell _ _ _ _ (by simp <;> omega)).trans hk2
  have HK2 := Lib.hid hs2
  have HRC := Lib.hid hrc
  clear hr2 hk2 hs2
  gi_wp2
  refine ⟨by simp, .inl ⟨_, _, rfl, run_takeDeferred HK2.out, ?_⟩⟩
  have hch : Mod [w.heap.size + 1, w.heap.size + 1 + 1 + 1 + 1] wE ((wE.setCell ⟨w.heap.size + 1, 0, none⟩ (.slice none 0 0)).putObj (w.heap.size + 1 + 1 + 1 + 1) (.deferred none)) := ⟨rfl, rfl, rfl, by simp [World.setCell], fun k _ hk => (World.putObj_heap_other (by simp at hk; omega)).trans (Below.heap_setCell _ _ _ _ (by simp at hk ⊢; omega))⟩
  have hfin : ((wE.setCell ⟨w.heap.size + 1, 0, none⟩ (.slice none 0 0)).putObj (w.heap.size + 1 + 1 + 1 + 1) (.deferred none)).cell? ⟨w.heap.size + 1, 0, none⟩ = some (.slice none 0 0) :=
    (World.cell?_of_block (w := wE.setCell ⟨w.heap.size + 1, 0, none⟩ (.slice none 0 0)) (World.putObj_heap_other (by simp <;> omega))).trans (cell_set_same HRC.out)
  refine ⟨_, results_word rfl _ _ ⟨w.heap.size + 1, 0, none⟩ _ rfl Tryz.underlying61 hfin, ?_⟩
  exact ⟨rfl, (HM0.out.step HE.out (fun t ht => .inr (by simp at ht; omega))).step hch (fun t ht => .inr (by simp at ht; omega))⟩

theorem nspread1 (N D K S g cap : Nat) (ev : Value) (was : Int) (w : World) (h : NodeAt w N D K (some ⟨S, 0, none⟩) ev was) (hs : w.cell? ⟨S, 1, none⟩ = some (.int .u64 1)) (ht : Tab w) (hcap : 1 ≤ cap) :
    Calls Tryz.prog 250 #[.pointer (some ⟨N, 0, none⟩), .slice (some ⟨g, 0, none⟩) 1 cap] w fun e w' => e = .returned (.slice none 0 0) ∧ Mod [] w w' :=
  callsIn_wide.1 (nspread1_in N D K S g cap ev was w h hs ht hcap)

end Go.Proofs.YtpbamamplmbgjaaGreatDoor
