/-
  The walk of a member's deliver: its one message, alone.
-/
import Derived.Test.YtaaaiggbnkeblaaGreatDoorMTopZ
import Derived.Test.YtaaaiggbnkeblaaGreatDoorMTopPo
namespace Go.Proofs.YtaaaiggbnkeblaaGreatDoor
set_option linter.unusedSimpArgs false
set_option linter.unusedVariables false
open Go.RowKit

/-- The shelf's ring with the first message. -/
def ring1 (t : ByteArray) : Nat → P := putP (fun _ => p0) 1 (1, (0, 1, t))
theorem ring1_all (t : ByteArray) : ∀ x, 0 < x → x ≤ 1 → hasP 0 (ring1 t) x = true := fun x h0 h1 => by
  obtain rfl : x = 1 := by omega
  rfl
theorem ring1_end (t : ByteArray) : hasP 0 (ring1 t) (1 + 1) = false := rfl
theorem seen_first (d : Nat) (me num : Int) (t : ByteArray) (w : World) (h : DeskAt w d 0 1 [(0, 1, t)]) :
    Calls Tryz.prog 277 #[.pointer (some ⟨d, 0, none⟩), .agg #[.int .i64 0, .int .u64 1, .string t]] w fun e w' => e = .returned (.bool true) ∧ Mod [d] w w' ∧ DeskAt w' d 0 1 [] := by
  refine (seen_any d 0 1 [(0, 1, t)] (0, 1, t) w h).mono ?_
  rintro e w' ⟨rfl, hM, hD⟩
  exact ⟨rfl, hM, hD⟩

theorem msg_set {w : World} {g : Nat} {x y z : Value} (h0 : w.cell? ⟨g, 0, none⟩ = some x) (h1 : w.cell? ⟨g, 1, none⟩ = some y) (h2 : w.cell? ⟨g, 2, none⟩ = some z) (a b c : Value) :
    (((w.setCell ⟨g, 0, none⟩ a).setCell ⟨g, 1, none⟩ b).setCell ⟨g, 2, none⟩ c).cell? ⟨g, 0, none⟩ = some a ∧ (((w.setCell ⟨g, 0, none⟩ a).setCell ⟨g, 1, none⟩ b).setCell ⟨g, 2, none⟩ c).cell? ⟨g, 1, none⟩ = some b ∧ (((w.setCell ⟨g, 0, none⟩ a).setCell ⟨g, 1, none⟩ b).setCell ⟨g, 2, none⟩ c).cell? ⟨g, 2, none⟩ = some c := by
  refine ⟨?_, ?_, cell_set_same (u := z) ?_⟩
  · rw [cell_set_off _ _ _ _ (by simp), cell_set_off _ _ _ _ (by simp)]; exact cell_set_same h0
  · rw [cell_set_off _ _ _ _ (by simp)]
    refine cell_set_same (u := y) ?_
    rw [cell_set_off _ _ _ _ (by simp)]; exact h1
  · rw [cell_set_off _ _ _ _ (by simp), cell_set_off _ _ _ _ (by simp)]; exact h2


def DelPost (w : World) (N D K r S H T L R C m : Nat) (now quiet : Int) (f : Int → Option Int) (sz : Nat) (lf : Int → Option Int) (lsz : Nat) (re : Array MapEntry) (rc : Nat) (t : ByteArray) (e : Ending) (w' : World) : Prop :=
  ∃ g cap, e = .returned (.tuple #[]) ∧ Alone w' N D K r S H T L R C m (.slice (some ⟨g, 0, none⟩) 1 cap) now 1 [] 1 1 quiet 0 (ring1 t) 2 f sz lf lsz re rc ∧ (∀ j v, (evcells ⟨0, false, 2, 1, 1, 1, 0, 1, t⟩)[j]? = some v → w'.cell? ⟨g, j, none⟩ = some v) ∧ w.heap.size ≤ g ∧ Mod [N, S, K] w w'

set_option maxRecDepth 100000 in
set_option maxHeartbeats 8000000 in
theorem ndeliver1 (N D K r S H T L R C m : Nat) (now quiet : Int) (f : Int → Option Int) (sz : Nat) (lf : Int → Option Int) (lsz : Nat) (re : Array MapEntry) (rc : Nat) (t : ByteArray) (w : World)
    (h : Alone w N D K r S H T L R C m (.slice none 0 0) now 1 [(0, 1, t)] 1 0 quiet 0 (ring1 t) 2 f sz lf lsz re rc) :
    Calls Tryz.prog 224 #[.pointer (some ⟨N, 0, none⟩)] w (DelPost w N D K r S H T L R C m now quiet f sz lf lsz re rc t) := by
  have HA := Lib.hid h
  have HWN := Lib.hid h.node.lt
  have c0 := h.node.c0
  have s7 : w.cell? ⟨S, 7, none⟩ = some (.int .u64 0) := h.sit.2.1 7 _ rfl
  have s2 : w.cell? ⟨S, 2, none⟩ = some (.pointer (some ⟨H, 0, none⟩)) := h.sit.2.1 2 _ rfl
  have s3 : w.cell? ⟨S, 3, none⟩ = some (.pointer (some ⟨T, 0, none⟩)) := h.sit.2.1 3 _ rfl
  have HS3 := Lib.hid s3
  clear h s3
  go_enter Tryz.func224, Tryz.ntmps224
  go_wp2_with fail
  refine wp_loop_rounds 2 ?_
  rw [rounds_succ]
  go_wp2_with fail
  go_region_held3 (fun w' => w'.cell? ⟨N, 0, none⟩ = some (.pointer (some ⟨S, 0, none⟩)) ∧ w'.cell? ⟨S, 7, none⟩ = some (.int .u64 0) ∧ w'.cell? ⟨S, 2, none⟩ = some (.pointer (some ⟨H, 0, none⟩))) (first | exact ⟨c0, s7, s2⟩ | exact ⟨HM5.out.at c0 (by simp), HM5.out.at s7 (by simp), HM5.out.at s2 (by simp)⟩) ((first | (go_at_call 275; refine (nlimit0 N D K S T H _ 1 0 1 1 0 (ring1 t) 1 _ (HA.out.node.mod (Mod.refl [] _).drew (by simp)) ((Mod.refl [] w).drew.at HS3.out (by simp)) ((Mod.refl [] w).drew.at s2 (by simp)) (HA.out.turn.mod (Mod.refl [] _).drew (by simp)) (HA.out.shelf.mod (Mod.refl [] _).drew (by simp)) (by decide) (by decide) (ring1_all t) (ring1_end t)).mono ?_; rintro e w5 ⟨rfl, hM5⟩; have HM5 := Lib.hid ((Mod.refl [] w).drew.trans hM5); clear hM5) | (go_at_call 190; refine (sreach_any H 0 (ring1 t) 1 _ (HA.out.shelf.mod HM5.out (by simp)) (by decide) (by decide) (ring1_all t) (ring1_end t)).mono ?_; rintro e w6 ⟨rfl, hw6⟩; have hw5 := hw6.symm; clear hw6; subst hw5)))
  go_wp2_with fail
  replace HA := Lib.hid (HA.out.mod0 HM5.out)
  have HM1 := Lib.hid HM5.out
  clear c0 s7 s2 HS3 HM5
  have c0 := HA.out.node.c0
  have s7 : w5.cell? ⟨S, 7, none⟩ = some (.int .u64 0) := HA.out.sit.2.1 7 _ rfl
  have s2 : w5.cell? ⟨S, 2, none⟩ = some (.pointer (some ⟨H, 0, none⟩)) := HA.out.sit.2.1 2 _ rfl
  have HL5 := Lib.hid (show S < w5.heap.size ∧ K < w5.heap.size ∧ N < w5.heap.size from by
    obtain ⟨_, _, hraw, _⟩ := HA.out.desk
    exact ⟨HA.out.sit.lt, hraw.lt, HA.out.node.lt⟩)
  go_cut [2, 3] (fun x2 x3 wx => ∃ b, x2 = .pointer (some ⟨b, 0, none⟩) ∧ x3 = .int .i64 0 ∧ (wx.cell? ⟨b, 0, none⟩ = some (.int .i64 0) ∧ wx.cell? ⟨b, 1, none⟩ = some (.int .u64 1) ∧ wx.cell? ⟨b, 2, none⟩ = some (.string t)) ∧ w5.heap.size ≤ b ∧ b < wx.heap.size ∧ Mod [] w5 wx)
  case first =>
    have hk : ∀ w', Mod [] w5 w' → w'.cell? ⟨N, 0, none⟩ = some (.pointer (some ⟨S, 0, none⟩)) ∧ w'.cell? ⟨S, 7, none⟩ = some (.int .u64 0) ∧ w'.cell? ⟨S, 2, none⟩ = some (.pointer (some ⟨H, 0, none⟩)) := fun w' hm => ⟨hm.at c0 (by simp), hm.at s7 (by simp), hm.at s2 (by simp)⟩
    have KEEP := Lib.hid hk
    have HM0 := Lib.hid (Mod.refl [] w5)
    clear hk
    go_region_held3 (fun w' => w'.cell? ⟨N, 0, none⟩ = some (.pointer (some ⟨S, 0, none⟩)) ∧ w'.cell? ⟨S, 7, none⟩ = some (.int .u64 0) ∧ w'.cell? ⟨S, 2, none⟩ = some (.pointer (some ⟨H, 0, none⟩))) (exact KEEP.out _ (by repeat (first | with_reducible exact HM6.out | with_reducible exact Mod.refl [] _ | with_reducible refine Mod.drew ?_ | with_reducible refine Mod.alloc ?_ _ | with_reducible refine Mod.setCell ?_ (.inr HM6.out.size) _ | with_reducible refine Mod.setCell ?_ (.inr HM0.out.size) _))) ((go_at_call 276; refine (sget_has H 0 (ring1 t) 1 0 1 t _ (HA.out.shelf.mod (S := []) (by repeat (first | with_reducible exact Mod.refl [] _ | with_reducible refine Mod.drew ?_ | with_reducible refine Mod.alloc ?_ _)) (by simp)) (by decide) (by decide) (ring1_all t 1 (by decide) (by decide)) rfl).mono ?_; rintro e w6 ⟨rfl, hM6⟩; have HM6 := Lib.hid (show Mod [] w5 w6 from Mod.trans (by repeat (first | with_reducible exact Mod.refl [] _ | with_reducible refine Mod.drew ?_ | with_reducible refine Mod.alloc ?_ _)) hM6); (try (have r6 := row_keep hM6 (heap_new_drew w5 (.cells #[.int .i64 0, .int .u64 0, .string ⟨#[]⟩] 156)); have r60 := cell_in r6 (j := 0) rfl; have r61 := cell_in r6 (j := 1) rfl; have r62 := cell_in r6 (j := 2) rfl; have q60 := free_in (j := 0) r6; have q61 := free_in (j := 1) r6; have q62 := free_in (j := 2) r6)); clear hM6))
    all_goals
      go_wp2_with fail
      go_meet
      case rel =>
        first
          | exact ⟨_, rfl, rfl, ⟨cell_in (heap_new _ _) rfl, cell_in (heap_new _ _) rfl, cell_in (heap_new _ _) rfl⟩, HM6.out.size, by simp, HM6.out.alloc _⟩
          | exact ⟨_, rfl, rfl, msg_set r60 r61 r62 _ _ _, Nat.le_refl _, by have := cell_lt' r60; simpa [World.setCell] using this, ((HM6.out.setCell (.inr (Nat.le_refl _)) _).setCell (.inr (Nat.le_refl _)) _).setCell (.inr (Nat.le_refl _)) _⟩
  case rest =>
    obtain ⟨b, rfl, rfl, hb, hb5, hbl, hmc⟩ := hcut
    replace HA := Lib.hid (HA.out.mod0 hmc)
    have HM2 := Lib.hid (HM1.out.trans hmc)
    have HBB := Lib.hid (show w.heap.size ≤ b ∧ b < wc.heap.size ∧ b ≠ S ∧ b ≠ K ∧ b ≠ N from by
      have := HM1.out.size
      obtain ⟨_, _, hraw, _⟩ := HA.out.desk
      have := hraw.lt
      have := HA.out.node.lt
      have := HA.out.sit.lt
      have hl := HL5.out
      omega)
    have HROW := Lib.hid hb
    clear c0 s7 s2 hb hb5 hbl hmc HM1
    have c0 := HA.out.node.c0
    have s7 : wc.cell? ⟨S, 7, none⟩ = some (.int .u64 0) := HA.out.sit.2.1 7 _ rfl
    have f7 := HA.out.sit.2.2 7
    go_upto_region 4 with fail
    have hm3 : Mod [S] wc (wc.setCell ⟨S, 7, none⟩ (.int .u64 1)) := (Mod.refl _ _).setCell (.inl (by simp)) _
    replace HA := Lib.hid (HA.out.setSit (met' := 1) (done' := 1) (quiet' := quiet) (HA.out.sit.set (k := 7) (v := .int .u64 1) rfl (by simp [sitCells])) hm3)
    have hbS : b ∉ [S] := by have := HBB.out; simp; omega
    obtain ⟨r0, r1, r2⟩ := HROW.out
    replace HROW := Lib.hid (And.intro (hm3.at r0 hbS) (And.intro (hm3.at r1 hbS) (hm3.at r2 hbS)))
    have HM3 := Lib.hid ((HM2.out.wide (T := [S]) (by simp)).trans hm3)
    have hbl3 : b < (wc.setCell ⟨S, 7, none⟩ (.int .u64 1)).heap.size := Nat.lt_of_lt_of_le HBB.out.2.1 hm3.size
    replace HBB := Lib.hid (And.intro HBB.out.1 (And.intro hbl3 HBB.out.2.2))
    clear hm3 hbS r0 r1 r2 HM2 c0 s7 f7 hbl3
    generalize wc.setCell ⟨S, 7, none⟩ (.int .u64 1) = W at HA HROW HM3 HBB ⊢
    obtain ⟨b0, b1, b2⟩ := HROW.out
    have c4 := HA.out.node.c4
    have HNK := Lib.hid (show N ∉ [K] ∧ b ∉ [K] from ⟨by simp [HA.out.sep], by have := HBB.out; simp; omega⟩)
    go_region_held3 (fun w' => w'.cell? ⟨N, 4, none⟩ = some (.pointer (some ⟨K, 0, none⟩)) ∧ w'.cell? ⟨b, 0, none⟩ = some (.int .i64 0) ∧ w'.cell? ⟨b, 1, none⟩ = some (.int .u64 1) ∧ w'.cell? ⟨b, 2, none⟩ = some (.string t)) (first | exact ⟨c4, b0, b1, b2⟩ | exact ⟨HM7.out.at c4 HNK.out.1, HM7.out.at b0 HNK.out.2, HM7.out.at b1 HNK.out.2, HM7.out.at b2 HNK.out.2⟩) ((go_at_call 277; refine (seen_first K 0 1 t _ (HA.out.desk.mod (Mod.refl [] _).drew (by simp))).mono ?_; rintro e w7 ⟨rfl, hM7, hd7⟩; have HM7 := Lib.hid ((Mod.refl [K] W).drew.trans hM7); have HD7 := Lib.hid hd7; clear hM7 hd7))
    replace HA := Lib.hid (HA.out.setDesk HD7.out HM7.out)
    replace HROW := Lib.hid (And.intro (HM7.out.at b0 HNK.out.2) (And.intro (HM7.out.at b1 HNK.out.2) (HM7.out.at b2 HNK.out.2)))
    replace HM3 := Lib.hid ((HM3.out.wide (T := [S, K]) (by simp)).trans (HM7.out.wide (by simp)))
    replace HBB := Lib.hid (And.intro HBB.out.1 (And.intro (Nat.lt_of_lt_of_le HBB.out.2.1 HM7.out.size) HBB.out.2.2))
    clear b0 b1 b2 c4 HNK HD7 HM7
    obtain ⟨b0, b1, b2⟩ := HROW.out
    have c0 := HA.out.node.c0
    have c5 := HA.out.node.c5
    have f5 := HA.out.node.free 5
    have s0 : w7.cell? ⟨S, 0, none⟩ = some (.int .u64 1) := HA.out.sit.2.1 0 _ rfl
    have s1 : w7.cell? ⟨S, 1, none⟩ = some (.int .u64 1) := HA.out.sit.2.1 1 _ rfl
    have s7 : w7.cell? ⟨S, 7, none⟩ = some (.int .u64 1) := HA.out.sit.2.1 7 _ rfl
    have bl := HBB.out.2.1
    have sl := HA.out.sit.lt
    have nl := HA.out.node.lt
    have HNL := Lib.hid (show N < w.heap.size from HWN.out)
    go_wp2_with fail
    obtain ⟨ie, hie, hiz, his, hib⟩ := infoEvent
    have hev1 : ((w7.drew).alloc (.cells #[.int .i64 2, .int .u64 1, .int .u64 1, .int .u64 1, .int .i64 0, .int .u64 1, .string t] 162)).heap[w7.heap.size]? = some (.cells #[.int .i64 2, .int .u64 1, .int .u64 1, .int .u64 1, .int .i64 0, .int .u64 1, .string t] 162 (0, 0)) := heap_new _ _
    have HEV := Lib.hid (World.news_of_block hev1)
    have hone : ∀ u ∈ ([.int .i64 2, .int .u64 1, .int .u64 1, .int .u64 1, .int .i64 0, .int .u64 1, .string t] : List Value), u.oneCell' = true := by
      intro u hu
      simp at hu
      rcases hu with rfl | rfl | rfl | rfl | rfl <;> rfl
    have HONE := Lib.hid hone
    have hk : ∀ w', Mod [] w7 w' → w'.cell? ⟨N, 0, none⟩ = some (.pointer (some ⟨S, 0, none⟩)) ∧ w'.cell? ⟨S, 0, none⟩ = some (.int .u64 1) ∧ w'.cell? ⟨S, 1, none⟩ = some (.int .u64 1) ∧ w'.cell? ⟨S, 7, none⟩ = some (.int .u64 1) ∧ w'.cell? ⟨b, 0, none⟩ = some (.int .i64 0) ∧ w'.cell? ⟨b, 1, none⟩ = some (.int .u64 1) ∧ w'.cell? ⟨b, 2, none⟩ = some (.string t) := fun w' hm => ⟨hm.at c0 (by simp), hm.at s0 (by simp), hm.at s1 (by simp), hm.at s7 (by simp), hm.at b0 (by simp), hm.at b1 (by simp), hm.at b2 (by simp)⟩
    have KEEP := Lib.hid hk
    have hby : (0 + 1) * ie.bytes ≤ 140737488355328 := by omega
    have hmx : 0 + 1 ≤ maxLen := by unfold maxLen; omega
    have hbs : w.heap.size ≤ ((w7.drew).alloc (.cells #[.int .i64 2, .int .u64 1, .int .u64 1, .int .u64 1, .int .i64 0, .int .u64 1, .string t] 162)).heap.size := by
      have := HM3.out.size
      simp
      omega
    have hnil : ((w7.drew).alloc (.cells #[.int .i64 2, .int .u64 1, .int .u64 1, .int .u64 1, .int .i64 0, .int .u64 1, .string t] 162)).ownsRow w.heap.size 162 7 (.slice none 0 0) 0 [] := ⟨rfl, .inl ⟨rfl, rfl⟩⟩
    have HAR := Lib.hid (And.intro hby (And.intro hmx (And.intro hbs hnil)))
    clear hev1 hone hk hby hmx hbs hnil hib
    have HNE := Lib.hid (show N ≠ S ∧ N ≠ b from ⟨by simp [HA.out.sep], by have := HBB.out; omega⟩)
    refine wp_region_held_drew (S := fun w' => w'.cell? ⟨N, 0, none⟩ = some (.pointer (some ⟨S, 0, none⟩)) ∧ w'.cell? ⟨S, 0, none⟩ = some (.int .u64 1) ∧ w'.cell? ⟨S, 1, none⟩ = some (.int .u64 1) ∧ w'.cell? ⟨S, 7, none⟩ = some (.int .u64 1) ∧ w'.cell? ⟨b, 0, none⟩ = some (.int .i64 0) ∧ w'.cell? ⟨b, 1, none⟩ = some (.int .u64 1) ∧ w'.cell? ⟨b, 2, none⟩ = some (.string t)) (by kernel_rfl) (by exact KEEP.out _ (Mod.refl [] _).drew) (fun hHeld => ?_)
    refine wpAnyH_take (i := 0) (oi := _) (v := ?_) rfl (by kernel_rfl) (by kernel_rfl) (by kernel_rfl) (fun _ _ _ h => h) (Or.inl ⟨by rfl, ?_⟩) (by assumption) ?_
    rotate_left
    · intro w hSw
      (try dsimp only at hSw)
      go_simp
      try with_reducible rfl
    try simp only [Act.put, List.setIfInBounds_toArray, List.set_cons_zero, List.set_cons_succ]
    refine wpAnyH_take (i := 1) (oi := _) (v := ?_) rfl (by kernel_rfl) (by kernel_rfl) (by kernel_rfl) (fun _ _ _ h => h) (Or.inl ⟨by rfl, ?_⟩) (by assumption) ?_
    rotate_left
    · intro w hSw
      (try dsimp only at hSw)
      go_simp
      try with_reducible rfl
    try simp only [Act.put, List.setIfInBounds_toArray, List.set_cons_zero, List.set_cons_succ]
    refine wpAnyH_take (i := 2) (oi := _) (v := ?_) rfl (by kernel_rfl) (by kernel_rfl) (by kernel_rfl) (fun _ _ _ h => h) (Or.inl ⟨by rfl, ?_⟩) (by assumption) ?_
    rotate_left
    · intro w hSw
      (try dsimp only at hSw)
      go_simp
      try with_reducible rfl
    try simp only [Act.put, List.setIfInBounds_toArray, List.set_cons_zero, List.set_cons_succ]
    refine wpAnyH_take (i := 3) (oi := _) (v := ?_) rfl (by kernel_rfl) (by kernel_rfl) (by kernel_rfl) (fun _ _ _ h => h) (Or.inl ⟨by rfl, ?_⟩) (by assumption) ?_
    rotate_left
    · intro w hSw
      (try dsimp only at hSw)
      go_simp
      try with_reducible rfl
    try simp only [Act.put, List.setIfInBounds_toArray, List.set_cons_zero, List.set_cons_succ]
    refine wpAnyH_take (i := 5) (oi := _) (v := ?_) rfl (by kernel_rfl) (by kernel_rfl) (by kernel_rfl) (fun _ _ _ h => h) (Or.inl ⟨by rfl, ?_⟩) (by assumption) ?_
    rotate_left
    · intro w hSw
      (try dsimp only at hSw)
      go_simp
      try with_reducible rfl
    try simp only [Act.put, List.setIfInBounds_toArray, List.set_cons_zero, List.set_cons_succ]
    refine wpAnyH_take (i := 6) (oi := _) (v := ?_) rfl (by kernel_rfl) (by kernel_rfl) (by kernel_rfl) (fun _ _ _ h => h) (Or.inl ⟨by rfl, ?_⟩) (by assumption) ?_
    rotate_left
    · intro w hSw
      (try dsimp only at hSw)
      go_simp
      try with_reducible rfl
    try simp only [Act.put, List.setIfInBounds_toArray, List.set_cons_zero, List.set_cons_succ]
    refine wpAnyH_take (i := 7) (oi := _) (v := ?_) rfl (by kernel_rfl) (by kernel_rfl) (by kernel_rfl) (fun _ _ _ h => h) (Or.inl ⟨by rfl, ?_⟩) (by assumption) ?_
    rotate_left
    · intro w hSw
      (try dsimp only at hSw)
      go_simp
      try with_reducible rfl
    try simp only [Act.put, List.setIfInBounds_toArray, List.set_cons_zero, List.set_cons_succ]
    refine wpAnyH_take (i := 8) (oi := _) (v := ?_) rfl (by kernel_rfl) (by kernel_rfl) (by kernel_rfl) (fun _ _ _ h => h) (Or.inl ⟨by rfl, ?_⟩) (by assumption) ?_
    rotate_left
    · intro w hSw
      (try dsimp only at hSw)
      go_simp
      try with_reducible rfl
    try simp only [Act.put, List.setIfInBounds_toArray, List.set_cons_zero, List.set_cons_succ]
    refine wpAnyH_take (i := 9) (oi := _) (v := ?_) rfl (by kernel_rfl) (by kernel_rfl) (by kernel_rfl) (fun _ _ _ h => h) (Or.inl ⟨by rfl, ?_⟩) (by assumption) ?_
    rotate_left
    · intro w hSw
      (try dsimp only at hSw)
      go_simp
      try with_reducible rfl
    try simp only [Act.put, List.setIfInBounds_toArray, List.set_cons_zero, List.set_cons_succ]
    refine wpAnyH_take (i := 10) (oi := _) (v := ?_) rfl (by kernel_rfl) (by kernel_rfl) (by kernel_rfl) (fun _ _ _ h => h) (Or.inl ⟨by rfl, ?_⟩) (by assumption) ?_
    rotate_left
    · intro w hSw
      (try dsimp only at hSw)
      go_simp
      try with_reducible rfl
    try simp only [Act.put, List.setIfInBounds_toArray, List.set_cons_zero, List.set_cons_succ]
    refine wpAnyH_take (i := 11) (oi := _) (v := ?_) rfl (by kernel_rfl) (by kernel_rfl) (by kernel_rfl) (fun _ _ _ h => h) (Or.inl ⟨by rfl, ?_⟩) (by assumption) ?_
    rotate_left
    · intro w hSw
      (try dsimp only at hSw)
      go_simp
      try with_reducible rfl
    try simp only [Act.put, List.setIfInBounds_toArray, List.set_cons_zero, List.set_cons_succ]
    refine wpAnyH_take (i := 12) (oi := _) (v := ?_) rfl (by kernel_rfl) (by kernel_rfl) (by kernel_rfl) (fun _ _ _ h => h) (Or.inl ⟨by rfl, ?_⟩) (by assumption) ?_
    rotate_left
    · intro w hSw
      (try dsimp only at hSw)
      go_simp
      try with_reducible rfl
    try simp only [Act.put, List.setIfInBounds_toArray, List.set_cons_zero, List.set_cons_succ]
    refine wpAnyH_take (i := 13) (oi := _) (v := ?_) rfl (by kernel_rfl) (by kernel_rfl) (by kernel_rfl) (fun _ _ _ h => h) (Or.inl ⟨by rfl, ?_⟩) (by assumption) ?_
    rotate_left
    · intro w hSw
      (try dsimp only at hSw)
      go_simp
      try with_reducible rfl
    try simp only [Act.put, List.setIfInBounds_toArray, List.set_cons_zero, List.set_cons_succ]
    refine wpAnyH_take (i := 14) (oi := _) (v := ?_) rfl (by kernel_rfl) (by kernel_rfl) (by kernel_rfl) (fun _ _ _ h => h) (Or.inl ⟨by rfl, ?_⟩) (by assumption) ?_
    rotate_left
    · intro w hSw
      (try dsimp only at hSw)
      go_simp
      try with_reducible rfl
    try simp only [Act.put, List.setIfInBounds_toArray, List.set_cons_zero, List.set_cons_succ]
    refine wpAnyH_take (i := 15) (oi := _) (v := ?_) rfl (by kernel_rfl) (by kernel_rfl) (by kernel_rfl) (fun _ _ _ h => h) (Or.inl ⟨by rfl, ?_⟩) (by assumption) ?_
    rotate_left
    · intro w hSw
      (try dsimp only at hSw)
      go_simp
      try with_reducible rfl
    try simp only [Act.put, List.setIfInBounds_toArray, List.set_cons_zero, List.set_cons_succ]
    refine wpAnyH_take (i := 16) (oi := _) (v := ?_) rfl (by kernel_rfl) (by kernel_rfl) (by kernel_rfl) (fun _ _ _ h => h) (Or.inl ⟨by rfl, ?_⟩) (by assumption) ?_
    rotate_left
    · intro w hSw
      (try dsimp only at hSw)
      go_simp
      try with_reducible rfl
    try simp only [Act.put, List.setIfInBounds_toArray, List.set_cons_zero, List.set_cons_succ]
    refine wpAnyH_take (i := 17) (oi := _) (v := ?_) rfl (by kernel_rfl) (by kernel_rfl) (by kernel_rfl) (fun _ _ _ h => h) (Or.inl ⟨by rfl, ?_⟩) (by assumption) ?_
    rotate_left
    · intro w hSw
      (try dsimp only at hSw)
      go_simp
      try with_reducible rfl
    try simp only [Act.put, List.setIfInBounds_toArray, List.set_cons_zero, List.set_cons_succ]
    refine wpAnyH_take (i := 18) (oi := _) (v := ?_) rfl (by kernel_rfl) (by kernel_rfl) (by kernel_rfl) (fun _ _ _ h => h) (Or.inl ⟨by rfl, ?_⟩) (by assumption) ?_
    rotate_left
    · intro w hSw
      (try dsimp only at hSw)
      go_simp
      try with_reducible rfl
    try simp only [Act.put, List.setIfInBounds_toArray, List.set_cons_zero, List.set_cons_succ]
    refine wpAnyH_take (i := 19) (oi := _) (v := ?_) rfl (by kernel_rfl) (by kernel_rfl) (by kernel_rfl) (fun _ _ _ h => h) (Or.inl ⟨by rfl, ?_⟩) (by assumption) ?_
    rotate_left
    · intro w hSw
      (try dsimp only at hSw)
      go_simp
      try with_reducible rfl
    try simp only [Act.put, List.setIfInBounds_toArray, List.set_cons_zero, List.set_cons_succ]
    refine wpAnyH_take (i := 20) (oi := _) (v := ?_) rfl (by kernel_rfl) (by kernel_rfl) (by kernel_rfl) (fun _ _ _ h => h) (Or.inl ⟨by rfl, ?_⟩) (by assumption) ?_
    rotate_left
    · intro w hSw
      (try dsimp only at hSw)
      go_simp
      try with_reducible rfl
    try simp only [Act.put, List.setIfInBounds_toArray, List.set_cons_zero, List.set_cons_succ]
    refine wpAnyH_ready (rs := [4, 21]) (by kernel_rfl) (by simp) ?_
    refine AllReadyH.cons (o := _) rfl (fun K hK => ?_) (AllReadyH.cons (o := _) rfl (fun K hK => ?_) AllReadyH.nil)
    · go_simp
      refine hK.out _ _ (by exact KEEP.out _ (Mod.refl [] _).drew) (fun hHeld => ?_)
      clear hK K
      try simp only [Act.put, List.setIfInBounds_toArray, List.set_cons_zero, List.set_cons_succ]
      refine wpAnyH_ready (rs := [21]) (by kernel_rfl) (by simp) ?_
      refine AllReadyH.cons (o := _) rfl (fun K hK => ?_) AllReadyH.nil
      go_simp
      refine hK.out _ _ (by exact KEEP.out _ ((Mod.refl [] _).drew.alloc _)) (fun hHeld => ?_)
      clear hK K
      try simp only [Act.put, List.setIfInBounds_toArray, List.set_cons_zero, List.set_cons_succ]
      refine wpAnyH_ready (rs := [22]) (by kernel_rfl) (by simp) ?_
      refine AllReadyH.cons (o := _) rfl (fun K hK => ?_) AllReadyH.nil
      refine step_append_lies _ rfl (.tmp 64) (.tmp 81) 223 rfl w.heap.size 162 ie _ 7 ie.bytes Tryz.underlying223 hie hiz his rfl rfl (by decide) (.slice none 0 0) 0 [] (by simp [Act.eval, Act.put]) HAR.out.2.2.2 ⟨w7.heap.size, 0, none⟩ 1 1 [.int .i64 2, .int .u64 1, .int .u64 1, .int .u64 1, .int .i64 0, .int .u64 1, .string t] (by simp [Act.eval, Act.put]) rfl HEV.out HONE.out (by decide) HAR.out.2.1 HAR.out.1 HAR.out.2.2.1 _ rfl ?_
      intro g cap w8 hown hgrow hat hlt2
      have HMG := Lib.hid (show Mod [] w7 w8 from Mod.grown_none ((Mod.refl [] _).drew.alloc _) hgrow)
      have HO := Lib.hid hown
      have n5 := HMG.out.at c5 (by simp)
      have g5 := (HMG.out.frozen (p := ⟨N, 5, none⟩) nl (by simp)).trans f5
      clear hown hgrow hat hlt2
      refine hK.out _ _ (by exact KEEP.out _ HMG.out) (fun hHeld => ?_)
      clear hK K
      try simp only [Act.put, List.setIfInBounds_toArray, List.set_cons_zero, List.set_cons_succ]
      refine wpAnyH_take (i := 23) (oi := _) (v := ?_) rfl (by kernel_rfl) (by kernel_rfl) (by kernel_rfl) (fun _ _ _ h => h) (Or.inl ⟨by rfl, ?_⟩) (by assumption) ?_
      rotate_left
      · intro w hSw
        (try dsimp only at hSw)
        go_simp
        try with_reducible rfl
      try simp only [Act.put, List.setIfInBounds_toArray, List.set_cons_zero, List.set_cons_succ]
      refine wpAnyH_take (i := 24) (oi := _) (v := ?_) rfl (by kernel_rfl) (by kernel_rfl) (by kernel_rfl) (fun _ _ _ h => h) (Or.inl ⟨by rfl, ?_⟩) (by assumption) ?_
      rotate_left
      · intro w hSw
        (try dsimp only at hSw)
        go_simp
        try with_reducible rfl
      try simp only [Act.put, List.setIfInBounds_toArray, List.set_cons_zero, List.set_cons_succ]
      refine wpAnyH_ready (rs := [25]) (by kernel_rfl) (by simp) ?_
      refine AllReadyH.cons (o := _) rfl (fun K hK => ?_) AllReadyH.nil
      go_simp
      refine hK.out _ _ (by obtain ⟨q0, q1, q2, q3, q4, q5, q6⟩ := KEEP.out _ HMG.out; exact ⟨(cell_set_off _ _ _ _ (by simp)).trans q0, (cell_set_far _ _ _ _ HNE.out.1).trans q1, (cell_set_far _ _ _ _ HNE.out.1).trans q2, (cell_set_far _ _ _ _ HNE.out.1).trans q3, (cell_set_far _ _ _ _ HNE.out.2).trans q4, (cell_set_far _ _ _ _ HNE.out.2).trans q5, (cell_set_far _ _ _ _ HNE.out.2).trans q6⟩) (fun hHeld => ?_)
      clear hK K
      try simp only [Act.put, List.setIfInBounds_toArray, List.set_cons_zero, List.set_cons_succ]
      refine wpAnyH_done (by kernel_rfl) ?_ _
      have hg := (ownsRow_ge HO.out g rfl).1
      have hsc : Mod [N] w8 (w8.setCell ⟨N, 5, none⟩ (.slice (some ⟨g, 0, none⟩) (0 + 1) cap)) := (Mod.refl _ _).setCell (.inl (by simp)) _
      have hgN : g ≠ N := by have := HNL.out; omega
      have ha9 := (HA.out.mod0 HMG.out).setNode ((HA.out.node.mod HMG.out (by simp)).setEv (.slice (some ⟨g, 0, none⟩) (0 + 1) cap)) hsc
      have hev : ∀ j v, (evcells ⟨0, false, 2, 1, 1, 1, 0, 1, t⟩)[j]? = some v → (w8.setCell ⟨N, 5, none⟩ (.slice (some ⟨g, 0, none⟩) (0 + 1) cap)).cell? ⟨g, j, none⟩ = some v := fun j v hj => hsc.at (ownsRow_cells HO.out j v hj) (by simpa using hgN)
      have hm9 := (HMG.out.wide (T := [N]) (by simp)).trans hsc
      clear hgN hsc n5 g5
      generalize w8.setCell ⟨N, 5, none⟩ (.slice (some ⟨g, 0, none⟩) (0 + 1) cap) = wc at ha9 hev hm9 ⊢
      replace HA := Lib.hid ha9
      replace HM3 := Lib.hid ((HM3.out.wide (T := [N, S, K]) (by simp)).trans (hm9.wide (by simp)))
      have HEVS := Lib.hid (And.intro hev hg)
      clear ha9 hev hg hm9 b0 b1 b2 c0 c5 f5 s0 s1 s7 bl sl nl HEV HONE KEEP HAR HNE HROW HBB
      have c0 := HA.out.node.c0
      have s7 : wc.cell? ⟨S, 7, none⟩ = some (.int .u64 1) := HA.out.sit.2.1 7 _ rfl
      have s2 : wc.cell? ⟨S, 2, none⟩ = some (.pointer (some ⟨H, 0, none⟩)) := HA.out.sit.2.1 2 _ rfl
      have s3 : wc.cell? ⟨S, 3, none⟩ = some (.pointer (some ⟨T, 0, none⟩)) := HA.out.sit.2.1 3 _ rfl
      have HS3 := Lib.hid s3
      clear s3
      go_wp2_with fail
      rw [rounds_succ]
      go_wp2_with fail
      go_region_held3 (fun w' => w'.cell? ⟨N, 0, none⟩ = some (.pointer (some ⟨S, 0, none⟩)) ∧ w'.cell? ⟨S, 7, none⟩ = some (.int .u64 1) ∧ w'.cell? ⟨S, 2, none⟩ = some (.pointer (some ⟨H, 0, none⟩))) (first | exact ⟨c0, s7, s2⟩ | exact ⟨HM5.out.at c0 (by simp), HM5.out.at s7 (by simp), HM5.out.at s2 (by simp)⟩) ((first | (go_at_call 275; refine (nlimit0 N D K S T H _ 1 0 1 1 0 (ring1 t) 1 _ (HA.out.node.mod (Mod.refl [] _).drew (by simp)) ((Mod.refl [] wc).drew.at HS3.out (by simp)) ((Mod.refl [] wc).drew.at s2 (by simp)) (HA.out.turn.mod (Mod.refl [] _).drew (by simp)) (HA.out.shelf.mod (Mod.refl [] _).drew (by simp)) (by decide) (by decide) (ring1_all t) (ring1_end t)).mono ?_; rintro e w5 ⟨rfl, hM5⟩; have HM5 := Lib.hid ((Mod.refl [] wc).drew.trans hM5); clear hM5) | (go_at_call 190; refine (sreach_any H 0 (ring1 t) 1 _ (HA.out.shelf.mod HM5.out (by simp)) (by decide) (by decide) (ring1_all t) (ring1_end t)).mono ?_; rintro e w6 ⟨rfl, hw6⟩; have hw5 := hw6.symm; clear hw6; subst hw5)))
      go_wp2_with fail
      refine bodyPost_end (results_none rfl _ _ _) rfl ?_
      exact ⟨g, cap, rfl, HA.out.mod0 HM5.out, fun j v hj => HM5.out.at (HEVS.out.1 j v hj) (by simp), HEVS.out.2, HM3.out.trans (HM5.out.wide (by simp))⟩
    · go_simp
      refine hK.out _ _ (by exact KEEP.out _ ((Mod.refl [] _).drew.alloc _)) (fun hHeld => ?_)
      clear hK K
      try simp only [Act.put, List.setIfInBounds_toArray, List.set_cons_zero, List.set_cons_succ]
      refine wpAnyH_ready (rs := [4]) (by kernel_rfl) (by simp) ?_
      refine AllReadyH.cons (o := _) rfl (fun K hK => ?_) AllReadyH.nil
      go_simp
      refine hK.out _ _ (by exact KEEP.out _ ((Mod.refl [] _).drew.alloc _)) (fun hHeld => ?_)
      clear hK K
      try simp only [Act.put, List.setIfInBounds_toArray, List.set_cons_zero, List.set_cons_succ]
      refine wpAnyH_ready (rs := [22]) (by kernel_rfl) (by simp) ?_
      refine AllReadyH.cons (o := _) rfl (fun K hK => ?_) AllReadyH.nil
      refine step_append_lies _ rfl (.tmp 64) (.tmp 81) 223 rfl w.heap.size 162 ie _ 7 ie.bytes Tryz.underlying223 hie hiz his rfl rfl (by decide) (.slice none 0 0) 0 [] (by simp [Act.eval, Act.put]) HAR.out.2.2.2 ⟨w7.heap.size, 0, none⟩ 1 1 [.int .i64 2, .int .u64 1, .int .u64 1, .int .u64 1, .int .i64 0, .int .u64 1, .string t] (by simp [Act.eval, Act.put]) rfl HEV.out HONE.out (by decide) HAR.out.2.1 HAR.out.1 HAR.out.2.2.1 _ rfl ?_
      intro g cap w8 hown hgrow hat hlt2
      have HMG := Lib.hid (show Mod [] w7 w8 from Mod.grown_none ((Mod.refl [] _).drew.alloc _) hgrow)
      have HO := Lib.hid hown
      have n5 := HMG.out.at c5 (by simp)
      have g5 := (HMG.out.frozen (p := ⟨N, 5, none⟩) nl (by simp)).trans f5
      clear hown hgrow hat hlt2
      refine hK.out _ _ (by exact KEEP.out _ HMG.out) (fun hHeld => ?_)
      clear hK K
      try simp only [Act.put, List.setIfInBounds_toArray, List.set_cons_zero, List.set_cons_succ]
      refine wpAnyH_take (i := 23) (oi := _) (v := ?_) rfl (by kernel_rfl) (by kernel_rfl) (by kernel_rfl) (fun _ _ _ h => h) (Or.inl ⟨by rfl, ?_⟩) (by assumption) ?_
      rotate_left
      · intro w hSw
        (try dsimp only at hSw)
        go_simp
        try with_reducible rfl
      try simp only [Act.put, List.setIfInBounds_toArray, List.set_cons_zero, List.set_cons_succ]
      refine wpAnyH_take (i := 24) (oi := _) (v := ?_) rfl (by kernel_rfl) (by kernel_rfl) (by kernel_rfl) (fun _ _ _ h => h) (Or.inl ⟨by rfl, ?_⟩) (by assumption) ?_
      rotate_left
      · intro w hSw
        (try dsimp only at hSw)
        go_simp
        try with_reducible rfl
      try simp only [Act.put, List.setIfInBounds_toArray, List.set_cons_zero, List.set_cons_succ]
      refine wpAnyH_ready (rs := [25]) (by kernel_rfl) (by simp) ?_
      refine AllReadyH.cons (o := _) rfl (fun K hK => ?_) AllReadyH.nil
      go_simp
      refine hK.out _ _ (by obtain ⟨q0, q1, q2, q3, q4, q5, q6⟩ := KEEP.out _ HMG.out; exact ⟨(cell_set_off _ _ _ _ (by simp)).trans q0, (cell_set_far _ _ _ _ HNE.out.1).trans q1, (cell_set_far _ _ _ _ HNE.out.1).trans q2, (cell_set_far _ _ _ _ HNE.out.1).trans q3, (cell_set_far _ _ _ _ HNE.out.2).trans q4, (cell_set_far _ _ _ _ HNE.out.2).trans q5, (cell_set_far _ _ _ _ HNE.out.2).trans q6⟩) (fun hHeld => ?_)
      clear hK K
      try simp only [Act.put, List.setIfInBounds_toArray, List.set_cons_zero, List.set_cons_succ]
      refine wpAnyH_done (by kernel_rfl) ?_ _
      have hg := (ownsRow_ge HO.out g rfl).1
      have hsc : Mod [N] w8 (w8.setCell ⟨N, 5, none⟩ (.slice (some ⟨g, 0, none⟩) (0 + 1) cap)) := (Mod.refl _ _).setCell (.inl (by simp)) _
      have hgN : g ≠ N := by have := HNL.out; omega
      have ha9 := (HA.out.mod0 HMG.out).setNode ((HA.out.node.mod HMG.out (by simp)).setEv (.slice (some ⟨g, 0, none⟩) (0 + 1) cap)) hsc
      have hev : ∀ j v, (evcells ⟨0, false, 2, 1, 1, 1, 0, 1, t⟩)[j]? = some v → (w8.setCell ⟨N, 5, none⟩ (.slice (some ⟨g, 0, none⟩) (0 + 1) cap)).cell? ⟨g, j, none⟩ = some v := fun j v hj => hsc.at (ownsRow_cells HO.out j v hj) (by simpa using hgN)
      have hm9 := (HMG.out.wide (T := [N]) (by simp)).trans hsc
      clear hgN hsc n5 g5
      generalize w8.setCell ⟨N, 5, none⟩ (.slice (some ⟨g, 0, none⟩) (0 + 1) cap) = wc at ha9 hev hm9 ⊢
      replace HA := Lib.hid ha9
      replace HM3 := Lib.hid ((HM3.out.wide (T := [N, S, K]) (by simp)).trans (hm9.wide (by simp)))
      have HEVS := Lib.hid (And.intro hev hg)
      clear ha9 hev hg hm9 b0 b1 b2 c0 c5 f5 s0 s1 s7 bl sl nl HEV HONE KEEP HAR HNE HROW HBB
      have c0 := HA.out.node.c0
      have s7 : wc.cell? ⟨S, 7, none⟩ = some (.int .u64 1) := HA.out.sit.2.1 7 _ rfl
      have s2 : wc.cell? ⟨S, 2, none⟩ = some (.pointer (some ⟨H, 0, none⟩)) := HA.out.sit.2.1 2 _ rfl
      have s3 : wc.cell? ⟨S, 3, none⟩ = some (.pointer (some ⟨T, 0, none⟩)) := HA.out.sit.2.1 3 _ rfl
      have HS3 := Lib.hid s3
      clear s3
      go_wp2_with fail
      rw [rounds_succ]
      go_wp2_with fail
      go_region_held3 (fun w' => w'.cell? ⟨N, 0, none⟩ = some (.pointer (some ⟨S, 0, none⟩)) ∧ w'.cell? ⟨S, 7, none⟩ = some (.int .u64 1) ∧ w'.cell? ⟨S, 2, none⟩ = some (.pointer (some ⟨H, 0, none⟩))) (first | exact ⟨c0, s7, s2⟩ | exact ⟨HM5.out.at c0 (by simp), HM5.out.at s7 (by simp), HM5.out.at s2 (by simp)⟩) ((first | (go_at_call 275; refine (nlimit0 N D K S T H _ 1 0 1 1 0 (ring1 t) 1 _ (HA.out.node.mod (Mod.refl [] _).drew (by simp)) ((Mod.refl [] wc).drew.at HS3.out (by simp)) ((Mod.refl [] wc).drew.at s2 (by simp)) (HA.out.turn.mod (Mod.refl [] _).drew (by simp)) (HA.out.shelf.mod (Mod.refl [] _).drew (by simp)) (by decide) (by decide) (ring1_all t) (ring1_end t)).mono ?_; rintro e w5 ⟨rfl, hM5⟩; have HM5 := Lib.hid ((Mod.refl [] wc).drew.trans hM5); clear hM5) | (go_at_call 190; refine (sreach_any H 0 (ring1 t) 1 _ (HA.out.shelf.mod HM5.out (by simp)) (by decide) (by decide) (ring1_all t) (ring1_end t)).mono ?_; rintro e w6 ⟨rfl, hw6⟩; have hw5 := hw6.symm; clear hw6; subst hw5)))
      go_wp2_with fail
      refine bodyPost_end (results_none rfl _ _ _) rfl ?_
      exact ⟨g, cap, rfl, HA.out.mod0 HM5.out, fun j v hj => HM5.out.at (HEVS.out.1 j v hj) (by simp), HEVS.out.2, HM3.out.trans (HM5.out.wide (by simp))⟩

end Go.Proofs.YtaaaiggbnkeblaaGreatDoor
