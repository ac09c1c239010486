/-
  The walk of detect's Know at an update of the detector's own node.
-/
import Derived.Test.YtaaaiggbnkeblaaGreatDoorMTopF
namespace Go.Proofs.YtaaaiggbnkeblaaGreatDoor
set_option linter.unusedSimpArgs false
set_option linter.unusedVariables false
open Go.RowKit

set_option maxRecDepth 100000 in
set_option maxHeartbeats 8000000 in
theorem take0 (d r : Nat) (now : Int) (x l : Value) (w : World) (h : DetAt w d r now) (ht : Tab w) :
    Calls Tryz.prog 48 #[.pointer (some ⟨d, 0, none⟩), .agg #[.int .i64 0, .int .u64 0, .int .i64 0], x, l] w fun e w' => e = .returned (.int .i64 0) ∧ Mod [] w w' := by
  have H := Lib.hid h
  have HT := Lib.hid ht
  have c0 := h.roll
  have hdl := h.lt
  have hne : ¬ d = w.heap.size := by omega
  clear h ht
  go_enter Tryz.func48, Tryz.ntmps48
  go_wp2_with fail
  have HMw := Lib.hid ((Mod.refl [] w).alloc (.cells #[.int .i64 0, .int .u64 0, .int .i64 0] 55))
  have HU := Lib.hid (heap_new w (.cells #[.int .i64 0, .int .u64 0, .int .i64 0] 55))
  have hdw : d < w.heap.size := hdl
  generalize hB : w.heap.size = B at HU ⊢
  generalize w.alloc (.cells #[.int .i64 0, .int .u64 0, .int .i64 0] 55) = W0 at HMw HU ⊢
  replace H := Lib.hid (H.out.mod HMw.out (by simp) (by simp))
  replace HT := Lib.hid (HT.out.mod HMw.out (by simp))
  have c1 := H.out.roll
  clear c0 hdl hne
  have HM0 := Lib.hid (Mod.refl [] W0)
  have hd0 : d < W0.heap.size := block_lt_of_cell c1
  have hd1 : d < W0.heap.size + 1 := by omega
  have hne0 : ¬ d = W0.heap.size := by omega
  go_cut [9] (fun _ wx => Mod [] W0 wx)
  case first =>
    go_region_with (first | (go_at_call 19; refine (live_one r _ (H.out.roll0.mod (S := []) (by repeat (first | exact HM6.out | exact HM5.out | exact HM0.out | refine Mod.drew ?_ | refine Mod.alloc ?_ _)) (by simp)) (HT.out.mod (S := []) (by repeat (first | exact HM6.out | exact HM5.out | exact HM0.out | refine Mod.drew ?_ | refine Mod.alloc ?_ _)) (by simp))).mono ?_; rintro e w5 ⟨rfl, hM5⟩; have HM5 := Lib.hid (show Mod [] W0 w5 from Mod.trans (by repeat (first | exact HM6.out | exact HM5.out | exact HM0.out | refine Mod.drew ?_ | refine Mod.alloc ?_ _)) hM5); have hc5 := HM5.out.at H.out.roll (by simp); have hd5 := block_lt_of_cell hc5; have hn5 := Nat.ne_of_lt hd5; (try (have r5 := row_keep hM5 (heap_new_drew W0 (.cells #[.int .i64 0, .int .u64 0, .int .i64 0] 55)); have r5z := zeros_of r5; unfold Zeros at r5z)); clear hM5) | (go_at_call 47; refine (mine0 r _ (H.out.roll0.mod (S := []) (by repeat (first | exact HM6.out | exact HM5.out | exact HM0.out | refine Mod.drew ?_ | refine Mod.alloc ?_ _)) (by simp)) ).mono ?_; rintro e w6 ⟨rfl, hM6⟩; have HM6 := Lib.hid (show Mod [] W0 w6 from Mod.trans (by repeat (first | exact HM6.out | exact HM5.out | exact HM0.out | refine Mod.drew ?_ | refine Mod.alloc ?_ _)) hM6); have hc6 := HM6.out.at H.out.roll (by simp); have hd6 := block_lt_of_cell hc6; have hn6 := Nat.ne_of_lt hd6; (try (have r6 := row_keep hM6 r5; have r6z := zeros_of r6; unfold Zeros at r6z)); (try (have q6 := row_keep hM6 (heap_new w5 (.cells #[.int .i64 0, .int .u64 0, .int .i64 0] 55)); have q6z := zeros_of q6; unfold Zeros at q6z)); clear hM6))
    all_goals
      go_wp2_with fail
      go_meet
      case rel => first | exact HM6.out.alloc _ | exact ((HM6.out.setCell (.inr HM5.out.size) _).setCell (.inr HM5.out.size) _).setCell (.inr HM5.out.size) _ | exact ((HM6.out.setCell (.inr HM0.out.size) _).setCell (.inr HM0.out.size) _).setCell (.inr HM0.out.size) _
  case rest =>
    have HMc := Lib.hid (show Mod [] W0 wc from hcut)
    have hBl : B < W0.heap.size := (Array.getElem?_eq_some_iff.1 HU.out).1
    have HUc := Lib.hid (row_keep HMc.out HU.out)
    have uc := zeros_of HUc.out
    unfold Zeros at uc
    have cc := HMc.out.at H.out.roll (by simp)
    have bc0 : B < wc.heap.size := (Array.getElem?_eq_some_iff.1 HUc.out).1
    have bc1 : B < wc.heap.size + 1 := by omega
    have bcn : ¬ B = wc.heap.size := by omega
    have dc0 : d < wc.heap.size := block_lt_of_cell cc
    have dc1 : d < wc.heap.size + 1 := by omega
    have dcn : ¬ d = wc.heap.size := by omega
    clear hcut
    go_wp2_with fail
    go_cut [11, 12] (fun s11 s12 wx => s12 = .bool true ∧ ∃ g, s11 = .pointer (some ⟨g, 0, none⟩) ∧ Zeros wx g ∧ Mod [] W0 wx)
    case first =>
      go_region_with (go_at_call 49; refine (get0 r _ (H.out.roll0.mod (S := []) (by repeat (first | exact HMc.out | refine Mod.drew ?_ | refine Mod.alloc ?_ _)) (by simp))).mono ?_; rintro e w6 ⟨rfl, hM6⟩; have HM6 := Lib.hid (show Mod [] W0 w6 from Mod.trans (by repeat (first | exact HMc.out | refine Mod.drew ?_ | refine Mod.alloc ?_ _)) hM6); have hc6 := HM6.out.at H.out.roll (by simp); have hd6 := block_lt_of_cell hc6; have hn6 := Nat.ne_of_lt hd6; (try (have r6 := row_keep hM6 (heap_new_drew wc (.cells #[.int .i64 0, .int .u64 0, .int .i64 0] 55)); have r6z := zeros_of r6; unfold Zeros at r6z)); clear hM6)
      all_goals
        go_wp2_with fail
        go_meet
        case rel => first | exact ⟨rfl, _, rfl, zeros_of (heap_new _ _), HM6.out.alloc _⟩ | exact ⟨rfl, _, rfl, zeros_set r6z, ((HM6.out.setCell (.inr HMc.out.size) _).setCell (.inr HMc.out.size) _).setCell (.inr HMc.out.size) _⟩
    case rest =>
      obtain ⟨rfl, g, rfl, hz, hMd⟩ := hcut
      rename_i wo _ _
      clear cc bc0 bc1 bcn dc0 dc1 dcn uc HUc
      rename_i wd
      have HMd := Lib.hid hMd
      have HUc := Lib.hid (row_keep HMd.out HU.out)
      have uc := zeros_of HUc.out
      have HZ := Lib.hid hz
      unfold Zeros at uc hz
      have cc := HMd.out.at H.out.roll (by simp)
      have heq : ∀ w : World, (binOp .eql 55 (.agg #[.int .i64 0, .int .u64 0, .int .i64 0]) (.agg #[.int .i64 0, .int .u64 0, .int .i64 0])).run Tryz.prog w = .ok (.bool true) w := fun w => by kernel_rfl
      clear hMd
      go_wp2_with fail
      go_cut [13, 14] (fun s13 s14 wx => s13 = .bool false ∧ s14 = .int .i64 70 ∧ Mod [] W0 wx ∧ Zeros wx g ∧ Zeros wx B)
      case first =>
        go_region_with (go_at_call 97; refine (hear0 r _ (H.out.roll0.mod (S := []) (by repeat (first | exact HMd.out | refine Mod.drew ?_ | refine Mod.alloc ?_ _)) (by simp))).mono ?_; rintro e w7 ⟨rfl, hM7⟩; have HM7 := Lib.hid hM7; clear hM7)
        all_goals
          go_wp2_with fail
          go_meet
          case rel => exact ⟨rfl, rfl, HMd.out.drew.trans HM7.out, HZ.out.mod ((Mod.refl [] _).drew.trans HM7.out), (zeros_of HUc.out).mod ((Mod.refl [] _).drew.trans HM7.out)⟩
      case rest =>
        obtain ⟨rfl, rfl, hMe, hz2, hz3⟩ := hcut
        have HMe := Lib.hid hMe
        clear uc hz cc HUc HZ hMe
        unfold Zeros at hz2 hz3
        go_wp2
        go_ret
        exact ⟨rfl, HMw.out.trans HMe.out⟩

open Go.RowKit

set_option maxRecDepth 100000 in
set_option maxHeartbeats 4000000 in
theorem know0 (d r : Nat) (now : Int) (l : Value) (w : World) (h : DetAt w d r now) (ht : Tab w) :
    Calls Tryz.prog 12 #[.pointer (some ⟨d, 0, none⟩), .agg #[.int .i64 0, .int .u64 0, .int .i64 0], l] w fun e w' => e = .returned (.int .i64 0) ∧ Mod [] w w' := by
  have H := Lib.hid h
  have HT := Lib.hid ht
  have hdl := h.lt
  clear h ht
  go_enter Tryz.func12, Tryz.ntmps12
  go_wp2_with fail
  have HMw := Lib.hid ((Mod.refl [] w).alloc (.cells #[.int .i64 0, .int .u64 0, .int .i64 0] 55))
  have HU := Lib.hid (heap_new w (.cells #[.int .i64 0, .int .u64 0, .int .i64 0] 55))
  generalize hB : w.heap.size = B at HU ⊢
  generalize w.alloc (.cells #[.int .i64 0, .int .u64 0, .int .i64 0] 55) = W0 at HMw HU ⊢
  replace H := Lib.hid (H.out.mod HMw.out (by simp) (by simp))
  replace HT := Lib.hid (HT.out.mod HMw.out (by simp))
  have c1 := H.out.me
  have uc := zeros_of HU.out
  unfold Zeros at uc
  go_region_with (go_at_call 48; refine (take0 d r now _ l _ (H.out.mod (Mod.refl [] _).drew (by simp) (by simp)) (HT.out.mod (Mod.refl [] _).drew (by simp))).mono ?_; rintro e w7 ⟨rfl, hM7⟩; have HM7 := Lib.hid hM7; clear hM7)
  all_goals
    go_wp2_with fail
    go_ret
    exact ⟨rfl, HMw.out.trans ((Mod.refl [] _).drew.trans HM7.out)⟩

end Go.Proofs.YtaaaiggbnkeblaaGreatDoor
