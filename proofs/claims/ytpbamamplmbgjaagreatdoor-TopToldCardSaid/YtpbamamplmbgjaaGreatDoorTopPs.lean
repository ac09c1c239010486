/-
  The walk of a member's post: its one message, alone.
-/
import Derived.Test.YtpbamamplmbgjaaGreatDoorTopNu
import Derived.Test.YtpbamamplmbgjaaGreatDoorTopSp
import Derived.Test.YtpbamamplmbgjaaGreatDoorDeskB
namespace Go.Proofs.YtpbamamplmbgjaaGreatDoor
set_option linter.unusedSimpArgs false
set_option linter.unusedVariables false
open Go.RowKit

def WaitsOne (w : World) (t : ByteArray) (e : Ending) (w' : World) : Prop := ∃ g c, e = .returned (.slice (some ⟨g, 0, none⟩) 1 c) ∧ w'.rangeAt g 0 (mcells (0, 1, t)) ∧ w.heap.size ≤ g ∧ Mod [] w w'
theorem waits_one (K : Nat) (most : Int) (t : ByteArray) (w : World) (h : DeskAt w K 0 1 [(0, 1, t)]) (hm : 1 ≤ most) :
    Calls Tryz.prog 241 #[.pointer (some ⟨K, 0, none⟩), .int .i64 most] w (WaitsOne w t) := by
  refine (waits_any K 0 1 [(0, 1, t)] most 1 w h (by simp; omega)).mono ?_
  rintro e w' ⟨v, rfl, hO, hM⟩
  have hO : OwnMs w' w.heap.size v [(0, 1, t)] := hO
  obtain ⟨a, c, rfl, hr, _, _, _, hB⟩ := hO.shape
  obtain ⟨g, o, rfl, _, hc⟩ := hr (by simp)
  obtain ⟨g', he, hg⟩ := hB _ rfl
  cases he
  exact ⟨g, c, rfl, by simpa [flat] using hc, hg, hM⟩

def PostPost (w : World) (N D K r S H T L R : Nat) (ev : Value) (now num : Int) (Q : List M) (done quiet : Int) (re : Array MapEntry) (rc : Nat) (t : ByteArray) (e : Ending) (w' : World) : Prop :=
  ∃ C m sz lf lsz f, e = .returned (.slice none 0 0) ∧ Alone w' N D K r S H T L R C m ev now num Q 1 done quiet 0 (putP (fun _ => p0) 1 (1, (0, 1, t))) 2 f sz lf lsz re rc ∧ Mod [S, L, H] w w'

set_option maxRecDepth 100000 in
set_option maxHeartbeats 8000000 in
theorem npost1 (N D K r S H T L R C m : Nat) (ev : Value) (now : Int) (done quiet : Int) (sz : Nat) (re : Array MapEntry) (rc : Nat) (t : ByteArray) (w : World)
    (h : Alone w N D K r S H T L R C m ev now 1 [(0, 1, t)] 0 done quiet 0 (fun _ => p0) 1 (fun _ => none) sz (fun _ => none) 0 re rc) (ht : t.size ≤ 64) :
    Calls Tryz.prog 185 #[.pointer (some ⟨N, 0, none⟩)] w (PostPost w N D K r S H T L R ev now 1 [(0, 1, t)] done quiet re rc t) := by
  have hpn : ∀ (a : Addr) (w : World), (binOp .neq 259 (.pointer (some a)) (.pointer none)).run Tryz.prog w = .ok (.bool true) w := fun a w => by kernel_rfl
  have HA := Lib.hid h
  have HT := Lib.hid ht
  have c4 := h.node.c4
  clear h ht
  go_enter Tryz.func185, Tryz.ntmps185
  go_wp2_with fail
  refine (waits_one K 6 t _ HA.out.desk (by decide)).mono ?_
  rintro e w1 ⟨g1, k1, rfl, _, _, hM1⟩
  replace HA := Lib.hid (HA.out.mod0 hM1)
  have HM := Lib.hid hM1
  clear hM1 c4
  have s3 : w1.cell? ⟨S, 3, none⟩ = some (.pointer (some ⟨T, 0, none⟩)) := HA.out.sit.2.1 3 _ rfl
  go_wp2_with fail
  refine (nfrozen0 N D K S T ev 1 0 1 1 _ HA.out.node s3 HA.out.turn).mono ?_
  rintro e w2 ⟨rfl, hM2⟩
  replace HA := Lib.hid (HA.out.mod0 hM2)
  replace HM := Lib.hid (HM.out.trans hM2)
  clear hM2 s3
  have c0 := HA.out.node.c0
  have s4 : w2.cell? ⟨S, 4, none⟩ = some (.pointer (some ⟨C, 0, none⟩)) := HA.out.sit.2.1 4 _ rfl
  go_wp2_with fail
  clear s4
  have c2 := HA.out.node.c2
  have c4 := HA.out.node.c4
  have s8 : w2.cell? ⟨S, 8, none⟩ = some (.int .u64 0) := HA.out.sit.2.1 8 _ rfl
  have hl := HA.out.lts
  have HLT := Lib.hid (show S < w2.heap.size ∧ L < w2.heap.size ∧ H < w2.heap.size from ⟨hl.1.2.2.2.2.1, hl.1.2.2.2.2.2.2.2.1, hl.1.2.2.2.2.2.1⟩)
  clear hl
  go_region_held3 (fun w' => w'.cell? ⟨N, 0, none⟩ = some (.pointer (some ⟨S, 0, none⟩)) ∧ w'.cell? ⟨N, 2, none⟩ = some (.int .i64 0) ∧ w'.cell? ⟨N, 4, none⟩ = some (.pointer (some ⟨K, 0, none⟩)) ∧ w'.cell? ⟨S, 8, none⟩ = some (.int .u64 0)) (first | exact ⟨c0, c2, c4, s8⟩ | exact ⟨HA7.out.node.c0, HA7.out.node.c2, HA7.out.node.c4, HA7.out.sit.2.1 8 _ rfl⟩ | exact ⟨HA5.out.node.c0, HA5.out.node.c2, HA5.out.node.c4, HA5.out.sit.2.1 8 _ rfl⟩ | exact ⟨HM3.out.at c0 (by simp), HM3.out.at c2 (by simp), HM3.out.at c4 (by simp), HM3.out.at s8 (by simp)⟩) ((first | (go_at_call 241; refine (waits_one K 8 t _ (HA.out.desk.mod (Mod.refl [] _).drew (by simp)) (by decide)).mono ?_; rintro e w3 ⟨g3, k3, rfl, hr3, hg3, hM3⟩; have HM3 := Lib.hid ((Mod.refl [] w2).drew.trans hM3); have HR3 := Lib.hid (And.intro hr3 hg3); clear hr3 hg3 hM3) | (go_at_call 251; refine (nnumber1 N D K r S H T L R C m ev now 1 [(0, 1, t)] done quiet sz re rc g3 k3 t _ (HA.out.mod0 HM3.out) HR3.out.1 (by have h1 := HLT.out; have h2 := HR3.out.2; simp at h2 ⊢; omega) HT.out).mono ?_; rintro e w5 ⟨C5, m5, sz5, lf5, lsz5, f5, g5, k5, rfl, hk5, ha5, hM5⟩; have HA5 := Lib.hid ha5; have HK5 := Lib.hid hk5; have HM5 := Lib.hid ((HM3.out.wide (by simp)).trans hM5); clear ha5 hk5 hM5) | (go_at_call 250; refine (nspread1 N D K S g5 k5 ev 1 _ HA5.out.node (HA5.out.sit.2.1 1 _ rfl) HA5.out.tab HK5.out).mono ?_; rintro e w7 ⟨rfl, hM7⟩; have HM6 := Lib.hid hM7; have HA7 := Lib.hid (HA5.out.mod0 hM7); clear hM7)))
  go_wp2
  go_ret
  exact ⟨C5, m5, sz5, lf5, lsz5, f5, rfl, HA7.out, (HM.out.wide (by simp)).trans (HM5.out.trans (HM6.out.wide (by simp)))⟩

end Go.Proofs.YtpbamamplmbgjaaGreatDoor
