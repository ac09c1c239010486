/-
  The walk of a turn's decide.
-/
import Derived.Test.YtaaaiggbnkeblaaGreatDoorMChoI
import Derived.Deep.DeepCutAuto
namespace Go.Proofs.YtaaaiggbnkeblaaGreatDoor
set_option linter.unusedSimpArgs false
set_option linter.unusedVariables false
open Go.RowKit

set_option maxRecDepth 100000 in
set_option maxHeartbeats 8000000 in
theorem decide_is (t : Nat) (s : TS) (L1 L2 : List Let) (x2 : Int) (hx2 : bits .andNot .u64 s.vm 7 = x2)
    (H1 : Gives1 t s s L1 79 #[.pointer (some ⟨t, 0, none⟩), .agg #[.int .i64 9, .int .i64 0, .int .i64 0, .int .u64 0, .int .i64 0, .slice none 0 0, .int .u64 0, .int .u64 0, .int .u64 0, .int .u64 0, .int .u64 5, .int .u64 s.vm, .int .u64 s.vc, .slice none 0 0, .slice none 0 0, .float .f64 0], .int .u64 7])
    (H2 : Gives1 t s s L2 79 #[.pointer (some ⟨t, 0, none⟩), .agg #[.int .i64 9, .int .i64 0, .int .i64 0, .int .u64 0, .int .i64 0, .slice none 0 0, .int .u64 0, .int .u64 0, .int .u64 0, .int .u64 0, .int .u64 5, .int .u64 s.vm, .int .u64 s.vc, .slice none 0 0, .slice none 0 0, .float .f64 0], .int .u64 x2]) (hL : L1.length + L2.length ≤ 1000) (hL0 : L1 ++ L2 ≠ []) :
    Gives1 t s s (L1 ++ L2) 85 #[.pointer (some ⟨t, 0, none⟩)] := by
  intro w h
  have k5 := h.1.k5
  have k212 := h.1.k212
  have k213 := h.1.k213
  have htl : t ≠ w.heap.size := Nat.ne_of_lt h.1.lt
  obtain ⟨vm, hvm⟩ : ∃ x, s.vm = x := ⟨_, rfl⟩
  obtain ⟨vc, hvc⟩ : ∃ x, s.vc = x := ⟨_, rfl⟩
  rw [hvm] at k212 hx2 H1 H2
  rw [hvc] at k213 H1 H2
  have hst : ∀ (a : Addr) (x : Nat) (w : World) (m : Mode), (store a (.float .f64 x) m).run Tryz.prog w = stored Tryz.prog w a (.float .f64 x) m := fun a x w m => run_store Tryz.prog w a _ m rfl
  have HH := Lib.hid h
  have HH1 := Lib.hid H1
  have HH2 := Lib.hid H2
  have HX2 := Lib.hid hx2
  have HLN := Lib.hid hL
  have HL0 := Lib.hid hL0
  have HV := Lib.hid (And.intro hvm hvc)
  clear h H1 H2 hx2 hL hL0 hvm hvc
  go_enter Tryz.func85, Tryz.ntmps85
  go_wp2_with fail
  go_region_held3 (fun w' => w'.cell? ⟨t, 5, none⟩ = some (.int .u64 4) ∧ w'.cell? ⟨t, 212, none⟩ = some (.int .u64 vm) ∧ w'.cell? ⟨t, 213, none⟩ = some (.int .u64 vc)) (first | exact ⟨k5, k212, k213⟩ | exact ⟨((Mod.refl [] w).drew.alloc _).at k5 (by simp), ((Mod.refl [] w).drew.alloc _).at k212 (by simp), ((Mod.refl [] w).drew.alloc _).at k213 (by simp)⟩) (fail)
  have e5 : IntKind.u64.wrap 5 = 5 := by decide
  rw [e5]
  have hm := ((Mod.refl [] w).alloc (.cells #[.int .i64 9, .int .i64 0, .int .i64 0, .int .u64 0, .int .i64 0, .slice none 0 0, .int .u64 0, .int .u64 0, .int .u64 0, .int .u64 0, .int .u64 5, .int .u64 vm, .int .u64 vc, .slice none 0 0, .slice none 0 0, .float .f64 0] 42)).drew
  have HM := Lib.hid hm
  have HHW := Lib.hid (HH.out.mod0 hm)
  have HROW := Lib.hid (show ((w.alloc (.cells #[.int .i64 9, .int .i64 0, .int .i64 0, .int .u64 0, .int .i64 0, .slice none 0 0, .int .u64 0, .int .u64 0, .int .u64 0, .int .u64 0, .int .u64 5, .int .u64 vm, .int .u64 vc, .slice none 0 0, .slice none 0 0, .float .f64 0] 42)).drew).heap[w.heap.size]? = some (.cells #[.int .i64 9, .int .i64 0, .int .i64 0, .int .u64 0, .int .i64 0, .slice none 0 0, .int .u64 0, .int .u64 0, .int .u64 0, .int .u64 0, .int .u64 5, .int .u64 vm, .int .u64 vc, .slice none 0 0, .slice none 0 0, .float .f64 0] 42 (0, 0)) from heap_new w _)
  clear hm k5 k212 k213 e5 HH
  generalize (w.alloc (.cells #[.int .i64 9, .int .i64 0, .int .i64 0, .int .u64 0, .int .i64 0, .slice none 0 0, .int .u64 0, .int .u64 0, .int .u64 0, .int .u64 0, .int .u64 5, .int .u64 vm, .int .u64 vc, .slice none 0 0, .slice none 0 0, .float .f64 0] 42)).drew = W at HM HHW HROW ⊢
  obtain ⟨p, hp⟩ : ∃ p, w.heap.size = p := ⟨_, rfl⟩
  rw [hp] at HROW htl ⊢
  clear hp
  obtain ⟨d0, d1, d2, d3, d4, d5, d6, d7, d8, d9, d10, d11, d12, d13, d14, d15⟩ := let_cells HROW.out
  have k6 := HHW.out.1.k6
  have k212 := HHW.out.1.k212
  rw [HV.out.1] at k212
  have hx2 := HX2.out
  have HC1 := Lib.hid (HH1.out _ (HHW.out.mod0 (Mod.refl [] _).drew))
  go_wp2_with fail
  go_region_held3 (fun w' => w'.cell? ⟨p, 0, none⟩ = some (.int .i64 9) ∧ w'.cell? ⟨p, 1, none⟩ = some (.int .i64 0) ∧ w'.cell? ⟨p, 2, none⟩ = some (.int .i64 0) ∧ w'.cell? ⟨p, 3, none⟩ = some (.int .u64 0) ∧ w'.cell? ⟨p, 4, none⟩ = some (.int .i64 0) ∧ w'.cell? ⟨p, 5, none⟩ = some (.slice none 0 0) ∧ w'.cell? ⟨p, 6, none⟩ = some (.int .u64 0) ∧ w'.cell? ⟨p, 7, none⟩ = some (.int .u64 0) ∧ w'.cell? ⟨p, 8, none⟩ = some (.int .u64 0) ∧ w'.cell? ⟨p, 9, none⟩ = some (.int .u64 0) ∧ w'.cell? ⟨p, 10, none⟩ = some (.int .u64 5) ∧ w'.cell? ⟨p, 11, none⟩ = some (.int .u64 vm) ∧ w'.cell? ⟨p, 12, none⟩ = some (.int .u64 vc) ∧ w'.cell? ⟨p, 13, none⟩ = some (.slice none 0 0) ∧ w'.cell? ⟨p, 14, none⟩ = some (.slice none 0 0) ∧ w'.cell? ⟨p, 15, none⟩ = some (.float .f64 0) ∧ w'.cell? ⟨t, 6, none⟩ = some (.int .u64 7) ∧ w'.cell? ⟨t, 212, none⟩ = some (.int .u64 vm)) (first | exact ⟨d0, d1, d2, d3, d4, d5, d6, d7, d8, d9, d10, d11, d12, d13, d14, d15, k6, k212⟩ | exact ⟨HX5.out.1.at d0 (by simpa using htl.symm), HX5.out.1.at d1 (by simpa using htl.symm), HX5.out.1.at d2 (by simpa using htl.symm), HX5.out.1.at d3 (by simpa using htl.symm), HX5.out.1.at d4 (by simpa using htl.symm), HX5.out.1.at d5 (by simpa using htl.symm), HX5.out.1.at d6 (by simpa using htl.symm), HX5.out.1.at d7 (by simpa using htl.symm), HX5.out.1.at d8 (by simpa using htl.symm), HX5.out.1.at d9 (by simpa using htl.symm), HX5.out.1.at d10 (by simpa using htl.symm), HX5.out.1.at d11 (by simpa using htl.symm), HX5.out.1.at d12 (by simpa using htl.symm), HX5.out.1.at d13 (by simpa using htl.symm), HX5.out.1.at d14 (by simpa using htl.symm), HX5.out.1.at d15 (by simpa using htl.symm), HX5.out.2.1, HX5.out.2.2⟩ | exact ⟨HX6.out.1.at d0 (by simpa using htl.symm), HX6.out.1.at d1 (by simpa using htl.symm), HX6.out.1.at d2 (by simpa using htl.symm), HX6.out.1.at d3 (by simpa using htl.symm), HX6.out.1.at d4 (by simpa using htl.symm), HX6.out.1.at d5 (by simpa using htl.symm), HX6.out.1.at d6 (by simpa using htl.symm), HX6.out.1.at d7 (by simpa using htl.symm), HX6.out.1.at d8 (by simpa using htl.symm), HX6.out.1.at d9 (by simpa using htl.symm), HX6.out.1.at d10 (by simpa using htl.symm), HX6.out.1.at d11 (by simpa using htl.symm), HX6.out.1.at d12 (by simpa using htl.symm), HX6.out.1.at d13 (by simpa using htl.symm), HX6.out.1.at d14 (by simpa using htl.symm), HX6.out.1.at d15 (by simpa using htl.symm), HX6.out.2.1, HX6.out.2.2⟩ | exact ⟨HX7.out.1.at d0 (by simpa using htl.symm), HX7.out.1.at d1 (by simpa using htl.symm), HX7.out.1.at d2 (by simpa using htl.symm), HX7.out.1.at d3 (by simpa using htl.symm), HX7.out.1.at d4 (by simpa using htl.symm), HX7.out.1.at d5 (by simpa using htl.symm), HX7.out.1.at d6 (by simpa using htl.symm), HX7.out.1.at d7 (by simpa using htl.symm), HX7.out.1.at d8 (by simpa using htl.symm), HX7.out.1.at d9 (by simpa using htl.symm), HX7.out.1.at d10 (by simpa using htl.symm), HX7.out.1.at d11 (by simpa using htl.symm), HX7.out.1.at d12 (by simpa using htl.symm), HX7.out.1.at d13 (by simpa using htl.symm), HX7.out.1.at d14 (by simpa using htl.symm), HX7.out.1.at d15 (by simpa using htl.symm), HX7.out.2.1, HX7.out.2.2⟩) ((first | (go_at_call 79; (with_reducible refine HC1.out.mono ?_); rintro _ w5 ⟨v5, rfl, hO5⟩; have HC2 := Lib.hid (HH2.out _ hO5.2.2.1); have j4 := hO5.2.2.1.1.k212; rw [HV.out.1] at j4; have HX5 := Lib.hid (And.intro ((Mod.refl [t] W).drew.trans hO5.2.2.2) (And.intro hO5.2.2.1.1.k6 j4)); have HO5 := Lib.hid hO5; clear hO5 j4) | (go_at_call 79; (with_reducible refine HC2.out.mono ?_); rintro _ w6 ⟨v6, rfl, hO6⟩; have j4 := hO6.2.2.1.1.k212; rw [HV.out.1] at j4; have HX6 := Lib.hid (And.intro (HX5.out.1.trans hO6.2.2.2) (And.intro hO6.2.2.1.1.k6 j4)); have HO6 := Lib.hid hO6; obtain ⟨v7, w7, hrun, hL7, h7, hm7⟩ := append_two HHW.out HO5.out hO6 HLN.out; have j4 := h7.1.k212; rw [HV.out.1] at j4; have HX7 := Lib.hid (And.intro hm7 (And.intro h7.1.k6 j4)); have HL7 := Lib.hid (And.intro hL7 h7); have HRUN := Lib.hid hrun; clear hO6 hL7 hm7 h7 j4 hrun) | (refine step_append_run rfl (.tmp 29) (.tmp 43) 30 rfl v5 v6 v7 w7 rfl rfl HRUN.out ?_)))
  have HF := Lib.hid (And.intro HL7.out HX7.out.1)
  clear d0 d1 d2 d3 d4 d5 d6 d7 d8 d9 d10 d11 d12 d13 d14 d15 k6 k212 HX5 HX6 HX7 HL7 HO5 HO6
  go_wp2_with fail
  go_ret
  exact ⟨v7, rfl, HF.out.1.1.base HM.out.size, fun e => absurd e HL0.out, HF.out.1.2, (HM.out.mono (by simp)).trans HF.out.2⟩

end Go.Proofs.YtaaaiggbnkeblaaGreatDoor
