/-
  The walk of detect's Tick where the detector knows itself alone.
-/
import Derived.Test.YtaaaiggbnkeblaaGreatDoorMTopF
import Derived.Test.YtaaaiggbnkeblaaGreatDoorMTopQ
namespace Go.Proofs.YtaaaiggbnkeblaaGreatDoor
set_option linter.unusedSimpArgs false
set_option linter.unusedVariables false
open Go.RowKit

theorem DetAt.turn {w w' : World} {d r : Nat} {now now' : Int} (h : DetAt w d r now) (hc : ∀ j, j ≠ 8 → w'.cell? ⟨d, j, none⟩ = w.cell? ⟨d, j, none⟩) (h8 : w'.cell? ⟨d, 8, none⟩ = some (.int .u64 now')) (hf : ∀ j, w'.frozen? ⟨d, j, none⟩ = w.frozen? ⟨d, j, none⟩) (hm : Mod [d] w w') (hdr : r ≠ d) : DetAt w' d r now' :=
  ⟨(hc 0 (by decide)).trans h.roll, (hc 1 (by decide)).trans h.left, (hc 2 (by decide)).trans h.me, (hc 4 (by decide)).trans h.doubts, (hc 5 (by decide)).trans h.watches, (hc 6 (by decide)).trans h.errands, h8, (hc 9 (by decide)).trans h.gone, fun j => (hf j).trans (h.free j), h.roll0.mod hm (by simpa using hdr)⟩

theorem DetAt.setNow {w : World} {d r : Nat} {now : Int} (h : DetAt w d r now) (v : Int) (hdr : r ≠ d) : DetAt (w.setCell ⟨d, 8, none⟩ (.int .u64 v)) d r v :=
  h.turn (fun j hj => cell_set_off _ _ _ _ (by simp; omega)) (cell_set_same h.now) (fun j => frozen_set _ _ _ _) ((Mod.refl _ _).setCell (.inl (by simp)) _) hdr
theorem DetAt.setSame {w : World} {d r j : Nat} {now : Int} {v : Value} (h : DetAt w d r now) (hv : w.cell? ⟨d, j, none⟩ = some v) (hdr : r ≠ d) : DetAt (w.setCell ⟨d, j, none⟩ v) d r now :=
  h.turn (fun i hj => set_same_cells hv _) ((set_same_cells hv _).trans h.now) (fun j => frozen_set _ _ _ _) ((Mod.refl _ _).setCell (.inl (by simp)) _) hdr

set_option maxRecDepth 100000 in
set_option maxHeartbeats 8000000 in
theorem dtick0 (d r : Nat) (now : Int) (l : Value) (w : World) (h : DetAt w d r now) (ht : Tab w) (h0 : 0 ≤ now) (h1 : now < 18446744073709551615) (hdr : r ≠ d) (hd0 : d ≠ 1) :
    Calls Tryz.prog 14 #[.pointer (some ⟨d, 0, none⟩), l] w fun e w' => e = .returned (.slice none 0 0) ∧ DetAt w' d r (now + 1) ∧ Mod [d] w w' := by
  have hmf : ∀ fn first cap w, (Instr.makeFunc fn first cap).run Tryz.prog w = .ok (.func fn first cap) w := fun _ _ _ _ => rfl
  have hn1 : (now + 1) % 18446744073709551616 = now + 1 := by omega
  have hdl := h.lt
  have c9 := h.gone
  have c8 := h.now
  have f8 := h.free 8
  have hne : ¬ d = w.heap.size := by omega
  have hne2 : ¬ w.heap.size = d := by omega
  have hs : (w.setCell ⟨d, 8, none⟩ (.int .u64 (now + 1))).heap.size = w.heap.size := by simp [World.setCell]
  have HB := heap_new (w.setCell ⟨d, 8, none⟩ (.int .u64 (now + 1))) (.cells #[.pointer (some ⟨d, 0, none⟩)] 51)
  rw [hs] at HB
  replace HB := Lib.hid HB
  have HM := Lib.hid ((((Mod.refl [d] w).setCell (p := ⟨d, 8, none⟩) (.inl (by simp)) (.int .u64 (now + 1)))).alloc (.cells #[.pointer (some ⟨d, 0, none⟩)] 51))
  have H := Lib.hid ((h.setNow (now + 1) hdr).mod ((Mod.refl [] _).alloc (.cells #[.pointer (some ⟨d, 0, none⟩)] 51)) (by simp) (by simp))
  have HT := Lib.hid (ht.mod HM.out (by simpa using hd0.symm))
  clear h ht hs
  go_enter Tryz.func14, Tryz.ntmps14
  go_upto_region 4 with fail
  generalize hB : w.heap.size = B at HB hne hne2 ⊢
  generalize (w.setCell ⟨d, 8, none⟩ (.int .u64 (now + 1))).alloc (.cells #[.pointer (some ⟨d, 0, none⟩)] 51) = W1 at HM H HB HT ⊢
  clear c9 c8 f8
  have b1 : W1.cell? ⟨B, 0, none⟩ = some (.pointer (some ⟨d, 0, none⟩)) := cell_in HB.out rfl
  have c5 := H.out.watches
  have f5 := H.out.free 5
  have H2 := Lib.hid (H.out.setSame c5 hdr)
  have HM2 := Lib.hid (HM.out.setCell (p := ⟨d, 5, none⟩) (.inl (by simp)) (.slice none 0 0))
  have HB2 := Lib.hid ((Below.heap_setCell W1 ⟨d, 5, none⟩ (.slice none 0 0) B hne2).trans HB.out)
  have HT2 := Lib.hid (HT.out.mod ((Mod.refl [d] W1).setCell (p := ⟨d, 5, none⟩) (.inl (by simp)) (.slice none 0 0)) (by simpa using hd0.symm))
  go_upto_region 6 with fail
  clear H HM HB HT b1 c5 f5
  generalize W1.setCell ⟨d, 5, none⟩ (.slice none 0 0) = W2 at H2 HM2 HB2 HT2 ⊢
  have b1 : W2.cell? ⟨B, 0, none⟩ = some (.pointer (some ⟨d, 0, none⟩)) := cell_in HB2.out rfl
  have c6 := H2.out.errands
  have f6 := H2.out.free 6
  go_wp2_with fail
  refine wp_loop_rounds 1 ?_
  rw [rounds_succ]
  go_wp2_with fail
  go_cut [] (fun wx => DetAt wx d r (now + 1) ∧ Mod [d] w wx ∧ wx.heap[B]? = some (.cells #[.pointer (some ⟨d, 0, none⟩)] 51 (0, 0)) ∧ Tab wx)
  case first =>
    have HF := Lib.hid (And.intro ((H2.out.mod (Mod.refl [] _).drew (by simp) (by simp)).setSame c6 hdr) (And.intro (HM2.out.drew.setCell (p := ⟨d, 6, none⟩) (.inl (by simp)) (.slice none 0 0)) (And.intro ((Below.heap_setCell W2.drew ⟨d, 6, none⟩ (.slice none 0 0) B hne2).trans HB2.out) (HT2.out.mod ((Mod.refl [d] W2).drew.setCell (p := ⟨d, 6, none⟩) (.inl (by simp)) (.slice none 0 0)) (by simpa using hd0.symm)))))
    go_region_with (go_at_call 53; refine (edelete_nil _ _).mono ?_; rintro e w3 ⟨rfl, rfl⟩)
    all_goals
      go_wp2_with fail
      go_meet
      case rel => exact HF.out
  case rest =>
    obtain ⟨h3, hm3, hb3, ht3⟩ := hcut
    have H3 := Lib.hid h3
    have HM3 := Lib.hid hm3
    have HB3 := Lib.hid hb3
    have HT3 := Lib.hid ht3
    clear h3 hm3 hb3 ht3 H2 HM2 HB2 HT2 b1 c6 f6
    have b1 : wc.cell? ⟨B, 0, none⟩ = some (.pointer (some ⟨d, 0, none⟩)) := cell_in HB3.out rfl
    have c8 := H3.out.now
    go_wp2_with fail
    go_cut [142, 143, 144] (fun s1 s2 s3 wx => s1 = .slice none 0 0 ∧ s2 = .int .i64 0 ∧ s3 = .int .i64 0 ∧ Mod [] wc wx)
    case first =>
      go_region_with (go_at_call 55; refine (dover_nil d 4 _ _ (show wc.drew.cell? _ = _ from H3.out.doubts)).mono ?_; rintro e w4 ⟨rfl, hM4⟩; have HM4 := Lib.hid ((Mod.refl [] wc).drew.trans hM4); clear hM4)
      all_goals
        go_wp2_with fail
        go_meet
        case rel => exact ⟨rfl, rfl, rfl, HM4.out⟩
    case rest =>
      obtain ⟨rfl, rfl, rfl, hm4⟩ := hcut
      have H4 := Lib.hid (H3.out.mod hm4 (by simp) (by simp))
      have HM4 := Lib.hid (HM3.out.trans (hm4.mono (by simp)))
      have HT4 := Lib.hid (HT3.out.mod hm4 (by simp))
      have hb4 := row_keep hm4 HB3.out
      clear b1 c8 hm4 H3 HM3 HB3 HT3
      have b1 : wc.cell? ⟨B, 0, none⟩ = some (.pointer (some ⟨d, 0, none⟩)) := cell_in hb4 rfl
      have c0 := H4.out.roll
      have HB4 := Lib.hid hb4
      clear hb4
      go_wp2_with fail
      refine wp_loop_rounds 1 ?_
      rw [rounds_succ]
      go_wp2_with fail
      go_cut [15, 16] (fun s1 s2 wx => s1 = .int .i64 0 ∧ s2 = .bool false ∧ Mod [] wc wx)
      case first =>
        go_region_with (first | (go_at_call 51; refine (others_one r _ (H4.out.roll0.mod (Mod.refl [] _).drew (by simp)) (HT4.out.mod (Mod.refl [] _).drew (by simp))).mono ?_; rintro e w5 ⟨⟨a5, c5, rfl⟩, hM5⟩; have HM5 := Lib.hid ((Mod.refl [] wc).drew.trans hM5); clear hM5; have b5 : w5.cell? ⟨B, 0, none⟩ = some (.pointer (some ⟨d, 0, none⟩)) := cell_in (row_keep HM5.out HB4.out) rfl) | (go_at_call 56; refine (rnext_nil _ _ _ _ _).mono ?_; rintro e w6 ⟨rfl, hM6⟩; have HM6 := Lib.hid (HM5.out.trans hM6); clear hM6))
        all_goals
          go_wp2_with fail
          go_meet
          case rel => exact ⟨rfl, rfl, HM6.out⟩
      case rest =>
        obtain ⟨rfl, rfl, hm5⟩ := hcut
        have H5 := Lib.hid (H4.out.mod hm5 (by simp) (by simp))
        have HM5 := Lib.hid (HM4.out.trans (hm5.mono (by simp)))
        clear hm5
        go_wp2
        go_ret
        exact ⟨rfl, H5.out, HM5.out⟩

end Go.Proofs.YtaaaiggbnkeblaaGreatDoor
