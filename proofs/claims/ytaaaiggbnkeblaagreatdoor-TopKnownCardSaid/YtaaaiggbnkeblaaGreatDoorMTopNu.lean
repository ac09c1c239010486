/-
  The walk of a member's number: its own first message, alone.
-/
import Derived.Test.YtaaaiggbnkeblaaGreatDoorMTopZ
namespace Go.Proofs.YtaaaiggbnkeblaaGreatDoor
set_option linter.unusedSimpArgs false
set_option linter.unusedVariables false
open Go.RowKit

theorem number_first (d m sz : Nat) (t : ByteArray) (w : World) (h : ClerkAt w d m 1 (cutNode (updO (fun _ => none) 0 0)) sz) (hsz : sz ≤ 1) :
    Calls Tryz.prog 270 #[.pointer (some ⟨d, 0, none⟩), .agg #[.int .i64 0, .int .u64 1, .string t]] w fun e w' => e = .returned (.tuple #[.int .u64 1, .int .i64 0]) ∧ (∃ f' sz', ClerkAt w' d m 2 f' sz') ∧ Mod [d, m] w w' := by
  have hne : numErr 1 (cutNode (updO (fun _ => none) 0 0)) 0 1 = 0 := by decide
  refine (number_any d m sz 1 _ 0 1 t w h (by omega) (by decide) (by decide) (by decide) (by decide)).mono ?_
  rintro e w' ⟨rfl, hM, sz', _, hC⟩
  rw [hne] at hC ⊢
  exact ⟨rfl, ⟨_, _, hC⟩, hM⟩

theorem infoPiece : ∃ i, Tryz.prog.info? 183 = some i ∧ i.zero = some (.agg #[.int .u64 0, .int .i64 0, .int .u64 0, .string ⟨#[]⟩]) ∧ i.size = 4 ∧ i.bytes ≤ 128 := by
  have h : (Tryz.prog.info? 183).map (fun i => (i.zero, i.size, decide (i.bytes ≤ 128))) = some (some (.agg #[.int .u64 0, .int .i64 0, .int .u64 0, .string ⟨#[]⟩]), 4, true) := by kernel_rfl
  cases hi : Tryz.prog.info? 183 with
  | none => rw [hi] at h; cases h
  | some i =>
    rw [hi] at h
    simp at h
    exact ⟨i, rfl, h.1, h.2.1, h.2.2⟩

def NumberPost (w : World) (N D K r S H T L R : Nat) (ev : Value) (now num : Int) (Q : List M) (done quiet : Int) (re : Array MapEntry) (rc : Nat) (t : ByteArray) (e : Ending) (w' : World) : Prop :=
  ∃ C m sz lf lsz f g cap, e = .returned (.slice (some ⟨g, 0, none⟩) 1 cap) ∧ 1 ≤ cap ∧ Alone w' N D K r S H T L R C m ev now num Q 1 done quiet 0 (putP (fun _ => p0) 1 (1, (0, 1, t))) 2 f sz lf lsz re rc ∧ Mod [S, L, H] w w'

set_option maxRecDepth 100000 in
set_option maxHeartbeats 8000000 in
theorem nnumber1 (N D K r S H T L R C m : Nat) (ev : Value) (now num : Int) (Q : List M) (done quiet : Int) (sz : Nat) (re : Array MapEntry) (rc a ca : Nat) (t : ByteArray) (w : World)
    (h : Alone w N D K r S H T L R C m ev now num Q 0 done quiet 0 (fun _ => p0) 1 (fun _ => none) sz (fun _ => none) 0 re rc) (ha : w.rangeAt a 0 (mcells (0, 1, t))) (has : a ∉ [S, L, H]) (ht : t.size ≤ 64) :
    Calls Tryz.prog 217 #[.pointer (some ⟨N, 0, none⟩), .int .i64 0, .int .u64 0, .slice (some ⟨a, 0, none⟩) 1 ca] w (NumberPost w N D K r S H T L R ev now num Q done quiet re rc t) := by
  have hpn : ∀ (a : Addr) (w : World), (binOp .eql 230 (.pointer (some a)) (.pointer none)).run Tryz.prog w = .ok (.bool false) w := fun a w => by kernel_rfl
  have HA := Lib.hid h
  have HT := Lib.hid ht
  have HM := Lib.hid ha
  have HAS := Lib.hid (show a ≠ S ∧ a ≠ L ∧ a ≠ H from by simpa using has)
  have c0 := h.node.c0
  have s4 : w.cell? ⟨S, 4, none⟩ = some (.pointer (some ⟨C, 0, none⟩)) := h.sit.2.1 4 _ rfl
  have s3 : w.cell? ⟨S, 3, none⟩ = some (.pointer (some ⟨T, 0, none⟩)) := h.sit.2.1 3 _ rfl
  clear h ha ht has
  go_enter Tryz.func217, Tryz.ntmps217
  go_wp2_with fail
  refine (nfrozen0 N D K S T ev 1 0 1 1 _ HA.out.node s3 HA.out.turn).mono ?_
  rintro e w1 ⟨rfl, hM1⟩
  replace HA := Lib.hid (HA.out.mod0 hM1)
  replace HM := Lib.hid (show w1.rangeAt a 0 (mcells (0, 1, t)) from fun j v hj => hM1.at (HM.out j v hj) (by simp))
  have HM1 := Lib.hid hM1
  clear c0 s4 s3 hM1
  have c0 := HA.out.node.c0
  have s5 : w1.cell? ⟨S, 5, none⟩ = some (.int .u64 0) := HA.out.sit.2.1 5 _ rfl
  have f5 := HA.out.sit.2.2 5
  go_wp2_with fail
  refine (has_is 0 0 false (by decide) (by decide) _).mono ?_
  rintro e w2 ⟨rfl, rfl⟩
  go_wp2_with fail
  go_cut [] (fun wx => Alone wx N D K r S H T L R C m ev now num Q 1 done quiet 0 (fun _ => p0) 1 (fun _ => none) sz (fun _ => none) 0 re rc ∧ Mod [S] w1 wx)
  case first =>
    go_region_with (go_at_call 33; refine (with_is 0 1 0 (by decide) (by decide) _).mono ?_; rintro e w5 ⟨rfl, rfl⟩)
    all_goals
      go_wp2_with fail
      go_meet
      case rel => exact ⟨(HA.out.setSit (HA.out.sit.set (k := 5) (v := .int .u64 1) rfl (by simp [sitCells])) ((Mod.refl _ _).setCell (.inl (by simp)) _)).mod0 (Mod.refl [] _).drew, ((Mod.refl [S] _).setCell (.inl (by simp)) _).drew⟩
  case rest =>
    obtain ⟨ha2, hm2⟩ := hcut
    replace HA := Lib.hid ha2
    replace HM := Lib.hid (show wc.rangeAt a 0 (mcells (0, 1, t)) from fun j v hj => hm2.at (HM.out j v hj) (by have := HAS.out.1; simpa using this))
    replace HM1 := Lib.hid ((HM1.out.mono (by simp)).trans hm2)
    clear ha2 hm2 c0 s5 f5
    have c0 := HA.out.node.c0
    have s6 : wc.cell? ⟨S, 6, none⟩ = some (.map (some L)) := HA.out.sit.2.1 6 _ rfl
    have hol := HA.out.last
    have HOL := Lib.hid hol
    have hw0 : (Lit.int .i64 0).wf = true := by decide
    have hw1 : (Lit.int .u64 0).wf = true := by decide
    clear hol
    go_wp2_with (at_mapUpdate; with_reducible refine wpList_omap_put (b := L) rfl (.tmp 56) (.tmp 57) (.tmp 58) 231 rfl Tryz.underlying3 Tryz.underlying231 Tryz.underlying23 (fun _ => none) 0 rfl HOL.out ?o1 0 0 rfl rfl hw0 hw1 ?o2)
    case o1 => unfold maxLen; omega
    case o2 =>
      intro w3 ho3 hg3
      have hm3 : Mod [L] wc w3 := (Mod.refl [L] _).grown hg3 (.inl (by simp))
      replace HA := Lib.hid (HA.out.setLast ho3 hm3)
      replace HM := Lib.hid (show w3.rangeAt a 0 (mcells (0, 1, t)) from fun j v hj => hm3.at (HM.out j v hj) (by have := HAS.out.2.1; simpa using this))
      replace HM1 := Lib.hid ((HM1.out.wide (T := [S, L]) (by simp)).trans (hm3.wide (by simp)))
      clear ho3 hg3 hm3 c0 s6 HOL
      have c0 := HA.out.node.c0
      have s6 : w3.cell? ⟨S, 6, none⟩ = some (.map (some L)) := HA.out.sit.2.1 6 _ rfl
      have s4 : w3.cell? ⟨S, 4, none⟩ = some (.pointer (some ⟨C, 0, none⟩)) := HA.out.sit.2.1 4 _ rfl
      have f4 := HA.out.sit.2.2 4
      have hsl := HA.out.sit.lt
      go_wp2_with fail
      go_cut [] (fun wx => ∃ C' m' sz', Alone wx N D K r S H T L R C' m' ev now num Q 1 done quiet 0 (fun _ => p0) 1 (cutNode (updO (fun _ => none) 0 0)) sz' (updO (fun _ => none) 0 0) (sizeO (fun _ => none) 0 0) re rc ∧ sz' ≤ 1 ∧ (w3.heap.size ≤ C' ∧ w3.heap.size ≤ m') ∧ Mod [S] w3 wx)
      case first =>
        have hSN : S ≠ N := by simp [HA.out.sep]
        have HSN := Lib.hid hSN
        clear hSN
        refine wp_region_held_drew (S := fun w' => w'.cell? ⟨N, 0, none⟩ = some (.pointer (some ⟨S, 0, none⟩)) ∧ w'.cell? ⟨S, 6, none⟩ = some (.map (some L))) (by kernel_rfl) (by exact ⟨c0, s6⟩) (fun hHeld => ?_)
        refine wpAnyH_take (i := 0) (oi := _) (v := ?_) rfl (by kernel_rfl) (by kernel_rfl) (by kernel_rfl) (fun _ _ _ h => h) (Or.inl ⟨by rfl, ?_⟩) (by assumption) ?_
        rotate_left
        · intro w hSw
          (try dsimp only at hSw)
          go_simp
          try with_reducible rfl
        try simp only [Act.put, List.setIfInBounds_toArray, List.set_cons_zero, List.set_cons_succ]
        refine wpAnyH_take (i := 1) (oi := _) (v := ?_) rfl (by kernel_rfl) (by kernel_rfl) (by kernel_rfl) (fun _ _ _ h => h) (Or.inl ⟨by rfl, ?_⟩) (by assumption) ?_
        rotate_left
        · intro w hSw
          (try dsimp only at hSw)
          go_simp
          try with_reducible rfl
        try simp only [Act.put, List.setIfInBounds_toArray, List.set_cons_zero, List.set_cons_succ]
        refine wpAnyH_take (i := 2) (oi := _) (v := ?_) rfl (by kernel_rfl) (by kernel_rfl) (by kernel_rfl) (fun _ _ _ h => h) (Or.inl ⟨by rfl, ?_⟩) (by assumption) ?_
        rotate_left
        · intro w hSw
          (try dsimp only at hSw)
          go_simp
          try with_reducible rfl
        try simp only [Act.put, List.setIfInBounds_toArray, List.set_cons_zero, List.set_cons_succ]
        refine wpAnyH_take (i := 3) (oi := _) (v := ?_) rfl (by kernel_rfl) (by kernel_rfl) (by kernel_rfl) (fun _ _ _ h => h) (Or.inl ⟨by rfl, ?_⟩) (by assumption) ?_
        rotate_left
        · intro w hSw
          (try dsimp only at hSw)
          go_simp
          try with_reducible rfl
        try simp only [Act.put, List.setIfInBounds_toArray, List.set_cons_zero, List.set_cons_succ]
        refine wpAnyH_take (i := 4) (oi := _) (v := ?_) rfl (by kernel_rfl) (by kernel_rfl) (by kernel_rfl) (fun _ _ _ h => h) (Or.inl ⟨by rfl, ?_⟩) (by assumption) ?_
        rotate_left
        · intro w hSw
          (try dsimp only at hSw)
          go_simp
          try with_reducible rfl
        try simp only [Act.put, List.setIfInBounds_toArray, List.set_cons_zero, List.set_cons_succ]
        refine wpAnyH_take (i := 5) (oi := _) (v := ?_) rfl (by kernel_rfl) (by kernel_rfl) (by kernel_rfl) (fun _ _ _ h => h) (Or.inl ⟨by rfl, ?_⟩) (by assumption) ?_
        rotate_left
        · intro w hSw
          (try dsimp only at hSw)
          go_simp
          try with_reducible rfl
        try simp only [Act.put, List.setIfInBounds_toArray, List.set_cons_zero, List.set_cons_succ]
        refine wpAnyH_take (i := 6) (oi := _) (v := ?_) rfl (by kernel_rfl) (by kernel_rfl) (by kernel_rfl) (fun _ _ _ h => h) (Or.inl ⟨by rfl, ?_⟩) (by assumption) ?_
        rotate_left
        · intro w hSw
          (try dsimp only at hSw)
          go_simp
          try with_reducible rfl
        try simp only [Act.put, List.setIfInBounds_toArray, List.set_cons_zero, List.set_cons_succ]
        refine wpAnyH_take (i := 7) (oi := _) (v := ?_) rfl (by kernel_rfl) (by kernel_rfl) (by kernel_rfl) (fun _ _ _ h => h) (Or.inl ⟨by rfl, ?_⟩) (by assumption) ?_
        rotate_left
        · intro w hSw
          (try dsimp only at hSw)
          go_simp
          try with_reducible rfl
        try simp only [Act.put, List.setIfInBounds_toArray, List.set_cons_zero, List.set_cons_succ]
        refine wpAnyH_take (i := 8) (oi := _) (v := ?_) rfl (by kernel_rfl) (by kernel_rfl) (by kernel_rfl) (fun _ _ _ h => h) (Or.inl ⟨by rfl, ?_⟩) (by assumption) ?_
        rotate_left
        · intro w hSw
          (try dsimp only at hSw)
          go_simp
          try with_reducible rfl
        try simp only [Act.put, List.setIfInBounds_toArray, List.set_cons_zero, List.set_cons_succ]
        refine wpAnyH_take (i := 9) (oi := _) (v := ?_) rfl (by kernel_rfl) (by kernel_rfl) (by kernel_rfl) (fun _ _ _ h => h) (Or.inl ⟨by rfl, ?_⟩) (by assumption) ?_
        rotate_left
        · intro w hSw
          (try dsimp only at hSw)
          go_simp
          try with_reducible rfl
        try simp only [Act.put, List.setIfInBounds_toArray, List.set_cons_zero, List.set_cons_succ]
        refine wpAnyH_take (i := 12) (oi := _) (v := ?_) rfl (by kernel_rfl) (by kernel_rfl) (by kernel_rfl) (fun _ _ _ h => h) (Or.inl ⟨by rfl, ?_⟩) (by assumption) ?_
        rotate_left
        · intro w hSw
          (try dsimp only at hSw)
          go_simp
          try with_reducible rfl
        try simp only [Act.put, List.setIfInBounds_toArray, List.set_cons_zero, List.set_cons_succ]
        refine wpAnyH_take (i := 13) (oi := _) (v := ?_) rfl (by kernel_rfl) (by kernel_rfl) (by kernel_rfl) (fun _ _ _ h => h) (Or.inl ⟨by rfl, ?_⟩) (by assumption) ?_
        rotate_left
        · intro w hSw
          (try dsimp only at hSw)
          go_simp
          try with_reducible rfl
        try simp only [Act.put, List.setIfInBounds_toArray, List.set_cons_zero, List.set_cons_succ]
        refine wpAnyH_take (i := 14) (oi := _) (v := ?_) rfl (by kernel_rfl) (by kernel_rfl) (by kernel_rfl) (fun _ _ _ h => h) (Or.inl ⟨by rfl, ?_⟩) (by assumption) ?_
        rotate_left
        · intro w hSw
          (try dsimp only at hSw)
          go_simp
          try with_reducible rfl
        try simp only [Act.put, List.setIfInBounds_toArray, List.set_cons_zero, List.set_cons_succ]
        refine wpAnyH_take (i := 15) (oi := _) (v := ?_) rfl (by kernel_rfl) (by kernel_rfl) (by kernel_rfl) (fun _ _ _ h => h) (Or.inl ⟨by rfl, ?_⟩) (by assumption) ?_
        rotate_left
        · intro w hSw
          (try dsimp only at hSw)
          go_simp
          try with_reducible rfl
        try simp only [Act.put, List.setIfInBounds_toArray, List.set_cons_zero, List.set_cons_succ]
        refine wpAnyH_take (i := 16) (oi := _) (v := ?_) rfl (by kernel_rfl) (by kernel_rfl) (by kernel_rfl) (fun _ _ _ h => h) (Or.inl ⟨by rfl, ?_⟩) (by assumption) ?_
        rotate_left
        · intro w hSw
          (try dsimp only at hSw)
          go_simp
          try with_reducible rfl
        try simp only [Act.put, List.setIfInBounds_toArray, List.set_cons_zero, List.set_cons_succ]
        refine wpAnyH_take (i := 17) (oi := _) (v := ?_) rfl (by kernel_rfl) (by kernel_rfl) (by kernel_rfl) (fun _ _ _ h => h) (Or.inl ⟨by rfl, ?_⟩) (by assumption) ?_
        rotate_left
        · intro w hSw
          (try dsimp only at hSw)
          go_simp
          try with_reducible rfl
        try simp only [Act.put, List.setIfInBounds_toArray, List.set_cons_zero, List.set_cons_succ]
        refine wpAnyH_take (i := 18) (oi := _) (v := ?_) rfl (by kernel_rfl) (by kernel_rfl) (by kernel_rfl) (fun _ _ _ h => h) (Or.inl ⟨by rfl, ?_⟩) (by assumption) ?_
        rotate_left
        · intro w hSw
          (try dsimp only at hSw)
          go_simp
          try with_reducible rfl
        try simp only [Act.put, List.setIfInBounds_toArray, List.set_cons_zero, List.set_cons_succ]
        refine wpAnyH_ready (rs := [10]) (by kernel_rfl) (by simp) ?_
        refine AllReadyH.cons (o := _) rfl (fun K hK => ?_) AllReadyH.nil
        go_simp
        refine hK.out _ _ (by exact ⟨c0, s6⟩) (fun hHeld => ?_)
        clear hK K
        try simp only [Act.put, List.setIfInBounds_toArray, List.set_cons_zero, List.set_cons_succ]
        refine wpAnyH_ready (rs := [11]) (by kernel_rfl) (by simp) ?_
        refine AllReadyH.cons (o := _) rfl (fun K hK => ?_) AllReadyH.nil
        go_simp
        go_at_call 269
        refine (cnext_any C m sz 1 (fun _ => none) _ (HA.out.clerk.mod (Mod.refl [] _).drew (by simp) (by simp))).mono ?_
        rintro e w5 ⟨rfl, rfl⟩
        refine hK.out _ _ (by exact ⟨c0, s6⟩) (fun hHeld => ?_)
        clear hK K
        try simp only [Act.put, List.setIfInBounds_toArray, List.set_cons_zero, List.set_cons_succ]
        refine wpAnyH_ready (rs := [19]) (by kernel_rfl) (by simp) ?_
        refine AllReadyH.cons (o := _) rfl (fun K hK => ?_) AllReadyH.nil
        go_simp
        go_at_call 158
        refine (newclerk_map 1 L _ _ _ (by decide) (by decide) (HA.out.last.mod (Mod.refl [] _).drew (by simp)) (by unfold sizeO; split <;> omega)).mono ?_
        rintro e w6 ⟨C', m', sz', rfl, hC, hm, hsz, hCl, hM6⟩
        have HM6 := Lib.hid ((Mod.refl [] w3).drew.trans hM6)
        have HCL := Lib.hid (And.intro hC (And.intro hm (And.intro hsz hCl)))
        have g4 := (HM6.out.frozen (p := ⟨S, 4, none⟩) hsl (by simp)).trans f4
        have k4 := HM6.out.at s4 (by simp)
        clear hM6 hC hm hsz hCl
        refine hK.out _ _ (by exact ⟨HM6.out.at c0 (by simp), HM6.out.at s6 (by simp)⟩) (fun hHeld => ?_)
        clear hK K
        try simp only [Act.put, List.setIfInBounds_toArray, List.set_cons_zero, List.set_cons_succ]
        refine wpAnyH_take (i := 20) (oi := _) (v := ?_) rfl (by kernel_rfl) (by kernel_rfl) (by kernel_rfl) (fun _ _ _ h => h) (Or.inl ⟨by rfl, ?_⟩) (by assumption) ?_
        rotate_left
        · intro w hSw
          (try dsimp only at hSw)
          go_simp
          try with_reducible rfl
        try simp only [Act.put, List.setIfInBounds_toArray, List.set_cons_zero, List.set_cons_succ]
        refine wpAnyH_take (i := 21) (oi := _) (v := ?_) rfl (by kernel_rfl) (by kernel_rfl) (by kernel_rfl) (fun _ _ _ h => h) (Or.inl ⟨by rfl, ?_⟩) (by assumption) ?_
        rotate_left
        · intro w hSw
          (try dsimp only at hSw)
          go_simp
          try with_reducible rfl
        try simp only [Act.put, List.setIfInBounds_toArray, List.set_cons_zero, List.set_cons_succ]
        refine wpAnyH_ready (rs := [22]) (by kernel_rfl) (by simp) ?_
        refine AllReadyH.cons (o := _) rfl (fun K hK => ?_) AllReadyH.nil
        go_simp
        refine hK.out _ _ (by exact ⟨(cell_set_far _ _ _ _ HSN.out).trans (HM6.out.at c0 (by simp)), (cell_set_off _ _ _ _ (by simp)).trans (HM6.out.at s6 (by simp))⟩) (fun hHeld => ?_)
        clear hK K
        try simp only [Act.put, List.setIfInBounds_toArray, List.set_cons_zero, List.set_cons_succ]
        refine wpAnyH_done (by kernel_rfl) ?_ _
        all_goals
          go_wp2_with fail
          go_meet
          case rel =>
            obtain ⟨hC, hm, hsz, hCl⟩ := HCL.out
            have e1 : (max 1 1 : Int) = 1 := by decide
            rw [e1] at hCl
            have hs1 : sizeO (fun _ : Int => (none : Option Int)) 0 0 = 1 := rfl
            have ha6 := HA.out.mod0 HM6.out
            exact ⟨C', m', sz', ha6.newClerk HA.out rfl hC hm hCl (ha6.sit.set (k := 4) (v := .pointer (some ⟨C', 0, none⟩)) rfl (by simp [sitCells])) ((Mod.refl _ _).setCell (.inl (by simp)) _), by rw [hs1] at hsz; exact hsz, ⟨hC, hm⟩, (HM6.out.wide (by simp)).trans ((Mod.refl _ _).setCell (.inl (by simp)) _)⟩
      case rest =>
        obtain ⟨C', m', sz', ha4, hsz4, hcm4, hm4⟩ := hcut
        have HCM := Lib.hid (show w.heap.size ≤ C' ∧ w.heap.size ≤ m' from by have := HM1.out.size; omega)
        clear hcm4
        replace HA := Lib.hid ha4
        replace HM := Lib.hid (show wc.rangeAt a 0 (mcells (0, 1, t)) from fun j v hj => hm4.at (HM.out j v hj) (by have := HAS.out.1; simpa using this))
        replace HM1 := Lib.hid (HM1.out.trans (hm4.wide (by simp)))
        have HSZ := Lib.hid hsz4
        clear ha4 hm4 hsz4 c0 s6 s4 f4 hsl
        have a0 : wc.cell? ⟨a, 0, none⟩ = some (.int .i64 0) := HM.out 0 _ rfl
        have a1 : wc.cell? ⟨a, 1, none⟩ = some (.int .u64 1) := HM.out 1 _ rfl
        have a2 : wc.cell? ⟨a, 2, none⟩ = some (.string t) := HM.out 2 _ rfl
        go_wp2_with fail
        refine wp_loop_rounds 2 ?_
        rw [rounds_succ]
        go_wp2_with fail
        have hrow := heap_new wc (.cells #[.int .i64 0, .int .u64 1, .string t] 156)
        have hl := HA.out.lts
        have hmw := (Mod.refl [] wc).alloc (.cells #[.int .i64 0, .int .u64 1, .string t] 156)
        replace HA := Lib.hid (HA.out.mod0 hmw)
        replace HM1 := Lib.hid (HM1.out.trans (hmw.wide (by simp)))
        generalize wc.alloc (.cells #[.int .i64 0, .int .u64 1, .string t] 156) = W at hrow HA HM1 ⊢
        clear hmw a0 a1 a2 HM
        generalize wc.heap.size = b at hrow hl ⊢
        have HBN := Lib.hid (show b ≠ S ∧ b ≠ L ∧ b ≠ H ∧ b ≠ C' ∧ b ≠ m' from by omega)
        have HROW := Lib.hid hrow
        clear hl
        have b0 := cell_in hrow (j := 0) rfl
        have c0 := HA.out.node.c0
        have s2 : W.cell? ⟨S, 2, none⟩ = some (.pointer (some ⟨H, 0, none⟩)) := HA.out.sit.2.1 2 _ rfl
        have s4 : W.cell? ⟨S, 4, none⟩ = some (.pointer (some ⟨C', 0, none⟩)) := HA.out.sit.2.1 4 _ rfl
        clear hrow
        go_region_held3 (fun w' => w'.cell? ⟨N, 0, none⟩ = some (.pointer (some ⟨S, 0, none⟩)) ∧ w'.cell? ⟨S, 2, none⟩ = some (.pointer (some ⟨H, 0, none⟩)) ∧ w'.cell? ⟨S, 4, none⟩ = some (.pointer (some ⟨C', 0, none⟩)) ∧ w'.cell? ⟨b, 0, none⟩ = some (.int .i64 0)) (exact ⟨c0, s2, s4, b0⟩) ((first | (go_at_call 269; refine (cnext_any C' m' sz' 1 _ _ (HA.out.clerk.mod (Mod.refl [] _).drew (by simp) (by simp))).mono ?_; rintro e w5 ⟨rfl, rfl⟩) | (go_at_call 226; refine (slow_any H 0 _ _ (HA.out.shelf.mod (Mod.refl [] _).drew (by simp))).mono ?_; rintro e w6 ⟨rfl, rfl⟩)))
        go_wp2_with fail
        replace HA := Lib.hid (HA.out.mod0 (Mod.refl [] _).drew)
        replace HM1 := Lib.hid HM1.out.drew
        replace HROW := Lib.hid (row_drew HROW.out)
        clear b0 c0 s2 s4
        generalize W.drew = W1 at HA HM1 HROW ⊢
        have b0 := cell_in HROW.out (show (#[Value.int .i64 0, .int .u64 1, .string t] : Array Value)[0]? = some (.int .i64 0) from rfl)
        have b1 := cell_in HROW.out (show (#[Value.int .i64 0, .int .u64 1, .string t] : Array Value)[1]? = some (.int .u64 1) from rfl)
        have b2 := cell_in HROW.out (show (#[Value.int .i64 0, .int .u64 1, .string t] : Array Value)[2]? = some (.string t) from rfl)
        have c0 := HA.out.node.c0
        have s4 : W1.cell? ⟨S, 4, none⟩ = some (.pointer (some ⟨C', 0, none⟩)) := HA.out.sit.2.1 4 _ rfl
        have HCN := Lib.hid (show N ∉ [C', m'] ∧ S ∉ [C', m'] ∧ b ∉ [C', m'] from ⟨by simp [HA.out.sep], by simp [HA.out.sep], by have := HBN.out; simp; omega⟩)
        go_region_held3 (fun w' => w'.cell? ⟨N, 0, none⟩ = some (.pointer (some ⟨S, 0, none⟩)) ∧ w'.cell? ⟨S, 4, none⟩ = some (.pointer (some ⟨C', 0, none⟩)) ∧ w'.cell? ⟨b, 0, none⟩ = some (.int .i64 0) ∧ w'.cell? ⟨b, 1, none⟩ = some (.int .u64 1) ∧ w'.cell? ⟨b, 2, none⟩ = some (.string t)) (first | exact ⟨c0, s4, b0, b1, b2⟩ | exact ⟨HM7.out.at c0 HCN.out.1, HM7.out.at s4 HCN.out.2.1, HM7.out.at b0 HCN.out.2.2, HM7.out.at b1 HCN.out.2.2, HM7.out.at b2 HCN.out.2.2⟩) ((go_at_call 270; refine (number_first C' m' sz' t _ (HA.out.clerk.mod (Mod.refl [] _).drew (by simp) (by simp)) HSZ.out).mono ?_; rintro e w7 ⟨rfl, ⟨f7, sz7, hCl7⟩, hM7⟩; have HM7 := Lib.hid ((Mod.refl [C', m'] W1).drew.trans hM7); have HC7 := Lib.hid hCl7; clear hM7 hCl7))
        replace HA := Lib.hid (HA.out.setClerk HC7.out HM7.out)
        replace HROW := Lib.hid (row_mod HM7.out HROW.out HCN.out.2.2)
        have HCL := Lib.hid (HM7.out.size)
        replace HM1 := Lib.hid (HM1.out.step HM7.out (fun x hx => .inr (by have := HCM.out; simp at hx; omega)))
        clear b0 b1 b2 c0 s4 HM7 HCL HC7
        have c0 := HA.out.node.c0
        have s6 : w7.cell? ⟨S, 6, none⟩ = some (.map (some L)) := HA.out.sit.2.1 6 _ rfl
        have b1 := cell_in HROW.out (show (#[Value.int .i64 0, .int .u64 1, .string t] : Array Value)[1]? = some (.int .u64 1) from rfl)
        have hz1 : (Lit.int .u64 1).wf = true := by decide
        obtain ⟨w8, hput, ho8, hg8⟩ := (HA.out.last.drew).run_put 231 Tryz.underlying3 Tryz.underlying231 Tryz.underlying23 (by unfold sizeO maxLen; split <;> omega) 0 1 hw0 hz1
        have hm8 : Mod [L] w7 w8 := ((Mod.refl [L] w7).drew).grown hg8 (.inl (by simp))
        have HO8 := Lib.hid ho8
        have HM8 := Lib.hid hm8
        clear ho8 hg8 hm8 hz1
        go_wp2_with fail
        go_region
        go_wp2_with fail
        replace HA := Lib.hid (HA.out.setLast HO8.out HM8.out)
        replace HROW := Lib.hid (row_mod HM8.out HROW.out (by have := HBN.out; simp; omega))
        replace HM1 := Lib.hid (HM1.out.trans (HM8.out.wide (by simp)))
        clear hput c0 s6 b1 HO8 HM8
        have b0 := cell_in HROW.out (show (#[Value.int .i64 0, .int .u64 1, .string t] : Array Value)[0]? = some (.int .i64 0) from rfl)
        have b1 := cell_in HROW.out (show (#[Value.int .i64 0, .int .u64 1, .string t] : Array Value)[1]? = some (.int .u64 1) from rfl)
        have b2 := cell_in HROW.out (show (#[Value.int .i64 0, .int .u64 1, .string t] : Array Value)[2]? = some (.string t) from rfl)
        have c0 := HA.out.node.c0
        have s2 : w8.cell? ⟨S, 2, none⟩ = some (.pointer (some ⟨H, 0, none⟩)) := HA.out.sit.2.1 2 _ rfl
        have hh : hasP 0 (fun _ => p0) 1 = false := by decide
        have hwn : within 0 1 = true := by decide
        have HHW := Lib.hid (And.intro hh hwn)
        have HHN := Lib.hid (show N ∉ [H] ∧ S ∉ [H] ∧ b ∉ [H] from ⟨by simp [HA.out.sep], by simp [HA.out.sep], by have := HBN.out; simp; omega⟩)
        clear hh hwn HCN
        go_region_held3 (fun w' => w'.cell? ⟨N, 0, none⟩ = some (.pointer (some ⟨S, 0, none⟩)) ∧ w'.cell? ⟨S, 2, none⟩ = some (.pointer (some ⟨H, 0, none⟩)) ∧ w'.cell? ⟨b, 0, none⟩ = some (.int .i64 0) ∧ w'.cell? ⟨b, 1, none⟩ = some (.int .u64 1) ∧ w'.cell? ⟨b, 2, none⟩ = some (.string t)) (first | exact ⟨c0, s2, b0, b1, b2⟩ | exact ⟨HM9.out.at c0 HHN.out.1, HM9.out.at s2 HHN.out.2.1, HM9.out.at b0 HHN.out.2.2, HM9.out.at b1 HHN.out.2.2, HM9.out.at b2 HHN.out.2.2⟩) ((go_at_call 271; refine (sput_ok H 0 (fun _ => p0) 1 0 1 t _ (HA.out.shelf.mod (Mod.refl [] _).drew (by simp)) (by decide) (by decide) HT.out HHW.out.1 HHW.out.2).mono ?_; rintro e w9 ⟨rfl, hsh9, hM9⟩; have HM9 := Lib.hid ((Mod.refl [H] w8).drew.trans hM9); have HS9 := Lib.hid hsh9; clear hM9 hsh9))
        replace HA := Lib.hid (HA.out.setShelf (show ShelfRaw w9 H 0 (putP (fun _ => p0) 1 (1, (0, 1, t))) from HS9.out) HM9.out)
        replace HROW := Lib.hid (row_mod HM9.out HROW.out HHN.out.2.2)
        replace HM1 := Lib.hid ((HM1.out.wide (T := [S, L, H]) (by simp)).trans (HM9.out.wide (by simp)))
        clear c0 s2 b0 b1 b2 HHW HHN HM9 HS9
        have b0 := cell_in HROW.out (show (#[Value.int .i64 0, .int .u64 1, .string t] : Array Value)[0]? = some (.int .i64 0) from rfl)
        have b1 := cell_in HROW.out (show (#[Value.int .i64 0, .int .u64 1, .string t] : Array Value)[1]? = some (.int .u64 1) from rfl)
        have b2 := cell_in HROW.out (show (#[Value.int .i64 0, .int .u64 1, .string t] : Array Value)[2]? = some (.string t) from rfl)
        obtain ⟨ie, hie, hiz, his, hib⟩ := infoPiece
        have HEV := Lib.hid (World.news_of_block (heap_new w9 (.cells #[.int .u64 1, .int .i64 0, .int .u64 1, .string t] 183)))
        have hone : ∀ u ∈ ([.int .u64 1, .int .i64 0, .int .u64 1, .string t] : List Value), u.oneCell' = true := by
          intro u hu
          simp at hu
          rcases hu with rfl | rfl | rfl | rfl <;> rfl
        have HONE := Lib.hid hone
        have hby : (0 + 1) * ie.bytes ≤ 140737488355328 := by omega
        have hmx : 0 + 1 ≤ maxLen := by unfold maxLen; omega
        have hbs : w.heap.size ≤ (w9.alloc (.cells #[.int .u64 1, .int .i64 0, .int .u64 1, .string t] 183)).heap.size := by
          have := HM1.out.size
          simp
          omega
        have hnil : (w9.alloc (.cells #[.int .u64 1, .int .i64 0, .int .u64 1, .string t] 183)).ownsRow w.heap.size 183 4 (.slice none 0 0) 0 [] := ⟨rfl, .inl ⟨rfl, rfl⟩⟩
        have HAR := Lib.hid (And.intro hby (And.intro hmx (And.intro hbs hnil)))
        clear hone hby hmx hbs hib hnil
        go_wp2_with (at_builtin; with_reducible refine wpList_append_lies _ rfl (.tmp 145) (.tmp 149) 38 rfl w.heap.size 183 ie _ 4 ie.bytes Tryz.underlying38 hie hiz his rfl rfl (by decide) (.slice none 0 0) 0 [] rfl HAR.out.2.2.2 ⟨w9.heap.size, 0, none⟩ 1 1 [.int .u64 1, .int .i64 0, .int .u64 1, .string t] rfl rfl HEV.out HONE.out (by decide) HAR.out.2.1 HAR.out.1 HAR.out.2.2.1 _ rfl ?_; intro g' cap w10 hown hgrow hat hlt2)
        have hcap : 1 ≤ cap := by
          obtain ⟨_, hx⟩ := hown
          rcases hx with ⟨hx, _⟩ | ⟨g2, cap2, cur, hx, _, _, hn, _⟩
          · cases hx
          · cases hx
            omega
        have hm10 : Mod [] w9 w10 := Mod.grown_none ((Mod.refl [] w9).alloc _) hgrow
        have HFIN := Lib.hid (And.intro hcap hm10)
        clear hown hgrow hat hlt2 hcap hm10 b0 b1 b2
        rw [rounds_succ]
        go_wp2
        go_ret
        exact ⟨C', m', sz7, _, _, f7, g', cap, rfl, HFIN.out.1, HA.out.mod0 HFIN.out.2, HM1.out.trans (HFIN.out.2.wide (by simp))⟩

end Go.Proofs.YtaaaiggbnkeblaaGreatDoor
