/-
  The walk of a member's Tick: its one message, alone.
-/
import Derived.Test.YtaaaiggbnkeblaaGreatDoorMTopDe
import Derived.Test.YtaaaiggbnkeblaaGreatDoorMTopPs
import Derived.Test.YtaaaiggbnkeblaaGreatDoorMTopW
namespace Go.Proofs.YtaaaiggbnkeblaaGreatDoor
set_option linter.unusedSimpArgs false
set_option linter.unusedVariables false
open Go.RowKit

def SetPost (w : World) (N D K S : Nat) (t : ByteArray) (e : Ending) (w' : World) : Prop :=
  ∃ g cap, e = .returned (.tuple #[]) ∧ NodeAt w' N D K (some ⟨S, 0, none⟩) (.slice (some ⟨g, 0, none⟩) 1 cap) 1 ∧ (∀ j v, (evcells ⟨0, false, 2, 1, 1, 1, 0, 1, t⟩)[j]? = some v → w'.cell? ⟨g, j, none⟩ = some v) ∧ w.heap.size ≤ g

def SetsPost (w : World) (N D K S H R : Nat) (t : ByteArray) (e : Ending) (w' : World) : Prop := SetPost w N D K S t e w' ∧ Mod [N, S, K, R, H] w w'

set_option maxRecDepth 100000 in
set_option maxHeartbeats 8000000 in
theorem nsettle1 (N D K r S H T L R C m : Nat) (now quiet : Int) (f : Int → Option Int) (sz : Nat) (lf : Int → Option Int) (lsz : Nat) (t : ByteArray) (w : World)
    (h : Alone w N D K r S H T L R C m (.slice none 0 0) now 1 [(0, 1, t)] 1 0 quiet 0 (ring1 t) 2 f sz lf lsz #[] 0) :
    Calls Tryz.prog 169 #[.pointer (some ⟨N, 0, none⟩)] w (SetsPost w N D K S H R t) := by
  have hpn : ∀ (a : Addr) (w : World), (binOp .eql 222 (.pointer (some a)) (.pointer none)).run Tryz.prog w = .ok (.bool false) w := fun a w => by kernel_rfl
  have HA := Lib.hid h
  have c0 := h.node.c0
  have hl := h.lts
  have HLT := Lib.hid (show R < w.heap.size ∧ H < w.heap.size ∧ S < w.heap.size from ⟨hl.1.2.2.2.2.2.2.2.2, hl.1.2.2.2.2.2.1, hl.1.2.2.2.2.1⟩)
  clear h hl
  go_enter Tryz.func169, Tryz.ntmps169
  go_wp2_with fail
  refine (ndeliver1 N D K r S H T L R C m now quiet f sz lf lsz #[] 0 t _ HA.out).mono ?_
  rintro e w1 ⟨g, cap, rfl, ha1, hev, hg, hM1⟩
  replace HA := Lib.hid ha1
  have HG := Lib.hid (And.intro hev hg)
  have HM := Lib.hid hM1
  have HGN := Lib.hid (show g ≠ R ∧ g ≠ H ∧ g ≠ S from by have := HLT.out; omega)
  clear ha1 hev hg hM1 c0
  have c0 := HA.out.node.c0
  have c2 := HA.out.node.c2
  have s9 : w1.cell? ⟨S, 9, none⟩ = some (.map (some R)) := HA.out.sit.2.1 9 _ rfl
  have s7 : w1.cell? ⟨S, 7, none⟩ = some (.int .u64 1) := HA.out.sit.2.1 7 _ rfl
  have hput := mrun_update_new (P := Tryz.prog) (w := w1.drew) (t := 231) (k := 0) (v := .int .u64 1) Tryz.underlying231 Tryz.underlying3 (show w1.drew.heap[R]? = some (.map #[] 0) from HA.out.reach)
  have hmp : Mod [R] w1 (w1.drew.putObj R (.map #[{ key := .int .i64 0, val := .int .u64 1, born := 0 }] (0 + 1))) := ⟨rfl, rfl, rfl, by simp, fun k _ hk => World.putObj_heap_other (by simpa using hk)⟩
  have hrow : (w1.drew.putObj R (.map #[{ key := .int .i64 0, val := .int .u64 1, born := 0 }] (0 + 1))).heap[R]? = some (.map #[{ key := .int .i64 0, val := .int .u64 1, born := 0 }] (0 + 1)) := World.putObj_heap_same (Array.getElem?_eq_some_iff.1 HA.out.reach).1
  have HP := Lib.hid (And.intro hmp hrow)
  clear hmp hrow
  go_wp2_with fail
  go_region
  generalize w1.drew.putObj R (.map #[{ key := .int .i64 0, val := .int .u64 1, born := 0 }] (0 + 1)) = W at HP ⊢
  replace HA := Lib.hid (HA.out.setReach HP.out.2 HP.out.1)
  replace HG := Lib.hid (And.intro (fun j v hj => HP.out.1.at (HG.out.1 j v hj) (by simpa using HGN.out.1)) HG.out.2)
  replace HM := Lib.hid ((HM.out.wide (T := [N, S, K, R]) (by simp)).trans (HP.out.1.wide (by simp)))
  clear c0 c2 s9 s7 hput HP
  have c0 := HA.out.node.c0
  have s1 : W.cell? ⟨S, 1, none⟩ = some (.int .u64 1) := HA.out.sit.2.1 1 _ rfl
  have s9 : W.cell? ⟨S, 9, none⟩ = some (.map (some R)) := HA.out.sit.2.1 9 _ rfl
  go_wp2_with fail
  go_region_held3 (fun w' => w'.cell? ⟨N, 0, none⟩ = some (.pointer (some ⟨S, 0, none⟩)) ∧ w'.cell? ⟨S, 1, none⟩ = some (.int .u64 1) ∧ w'.cell? ⟨S, 9, none⟩ = some (.map (some R))) (first | exact ⟨c0, s1, s9⟩ | exact ⟨HM5.out.at c0 (by simp), HM5.out.at s1 (by simp), HM5.out.at s9 (by simp)⟩) ((go_at_call 225; refine (stable_one R 0 1 1 _ (HA.out.tab.mod (Mod.refl [] _).drew (by simp)) (show W.drew.heap[R]? = _ from HA.out.reach)).mono ?_; rintro e w5 ⟨rfl, hM5⟩; have HM5 := Lib.hid ((Mod.refl [] W).drew.trans hM5); clear hM5))
  replace HA := Lib.hid (HA.out.mod0 HM5.out)
  replace HG := Lib.hid (And.intro (fun j v hj => HM5.out.at (HG.out.1 j v hj) (by simp)) HG.out.2)
  replace HM := Lib.hid (HM.out.trans (HM5.out.wide (by simp)))
  clear c0 s1 s9 HM5
  have c0 := HA.out.node.c0
  have s2 : w5.cell? ⟨S, 2, none⟩ = some (.pointer (some ⟨H, 0, none⟩)) := HA.out.sit.2.1 2 _ rfl
  have s7 : w5.cell? ⟨S, 7, none⟩ = some (.int .u64 1) := HA.out.sit.2.1 7 _ rfl
  go_wp2_with fail
  refine (slow_any H 0 (ring1 t) _ HA.out.shelf).mono ?_
  rintro e w6 ⟨rfl, hw6⟩
  have hw5 := hw6.symm
  clear hw6
  subst hw5
  go_wp2_with fail
  refine (strim_one H 0 (ring1 t) 1 _ HA.out.shelf (by decide) (by decide) (ring1_all t) (ring1_end t)).mono ?_
  rintro e w7 ⟨rfl, hsh, hM7⟩
  replace HA := Lib.hid (HA.out.setShelf hsh hM7)
  replace HG := Lib.hid (And.intro (fun j v hj => hM7.at (HG.out.1 j v hj) (by simpa using HGN.out.2.1)) HG.out.2)
  replace HM := Lib.hid ((HM.out.wide (T := [N, S, K, R, H]) (by simp)).trans (hM7.wide (by simp)))
  clear c0 s2 s7 hsh hM7
  have c0 := HA.out.node.c0
  have s3 : w7.cell? ⟨S, 3, none⟩ = some (.pointer (some ⟨T, 0, none⟩)) := HA.out.sit.2.1 3 _ rfl
  go_wp2_with fail
  refine (turn_decided T 0 1 1 _ HA.out.turn).mono ?_
  rintro e w8 ⟨rfl, hM8⟩
  replace HA := Lib.hid (HA.out.mod0 hM8)
  replace HG := Lib.hid (And.intro (fun j v hj => hM8.at (HG.out.1 j v hj) (by simp)) HG.out.2)
  replace HM := Lib.hid (HM.out.trans (hM8.wide (by simp)))
  clear c0 s3 hM8
  go_wp2_with fail
  go_region
  go_wp2_with fail
  refine bodyPost_end (results_none rfl _ _ _) rfl ?_
  have hf := ((Mod.refl [] w8).alloc (.cells #[.int .u64 0, .int .u64 0] 45)).drew
  exact ⟨⟨g, cap, rfl, HA.out.node.mod hf (by simp), fun j v hj => hf.at (HG.out.1 j v hj) (by simp), HG.out.2⟩, HM.out.trans (hf.wide (by simp))⟩

open Go.RowKit

def TickPost (w : World) (N D K S H L R : Nat) (t : ByteArray) (e : Ending) (w' : World) : Prop :=
  ∃ g cap, e = .returned (.slice none 0 0) ∧ NodeAt w' N D K (some ⟨S, 0, none⟩) (.slice (some ⟨g, 0, none⟩) 1 cap) 1 ∧ (∀ j v, (evcells ⟨0, false, 2, 1, 1, 1, 0, 1, t⟩)[j]? = some v → w'.cell? ⟨g, j, none⟩ = some v) ∧ w.heap.size ≤ g ∧ Mod [N, D, K, S, H, L, R] w w'

set_option maxRecDepth 100000 in
set_option maxHeartbeats 8000000 in
theorem ntick1 (N D K r S H T L R C m : Nat) (now quiet : Int) (sz : Nat) (l : Value) (t : ByteArray) (w : World)
    (h : Alone w N D K r S H T L R C m (.slice none 0 0) now 1 [(0, 1, t)] 0 0 quiet 0 (fun _ => p0) 1 (fun _ => none) sz (fun _ => none) 0 #[] 0) (ht : t.size ≤ 64) (hn : 0 ≤ now ∧ now < 1000) (hq : 0 ≤ quiet ∧ quiet < 1000) :
    Calls Tryz.prog 125 #[.pointer (some ⟨N, 0, none⟩), l] w (TickPost w N D K S H L R t) := by
  have hpn : ∀ (a : Addr) (w : World), (binOp .eql 222 (.pointer (some a)) (.pointer none)).run Tryz.prog w = .ok (.bool false) w := fun a w => by kernel_rfl
  have HA := Lib.hid h
  have HT := Lib.hid ht
  have HQ := Lib.hid (And.intro hn hq)
  have c3 := h.node.c3
  have c10 := h.node.c10
  clear h ht hn hq
  go_enter Tryz.func125, Tryz.ntmps125
  go_wp2_with fail
  refine (dtick0 D r now l _ HA.out.det HA.out.tab HQ.out.1.1 (by have := HQ.out.1.2; omega) (by simp [HA.out.sep]) (by simp [HA.out.sep])).mono ?_
  rintro e w1 ⟨rfl, hd, hM1⟩
  replace HA := Lib.hid (HA.out.setDet hd hM1)
  have HM := Lib.hid hM1
  clear hd hM1 c3 c10
  go_wp2_with fail
  refine (nnotes_nil _ _).mono ?_
  rintro e w2 ⟨rfl, hw⟩
  have hw' := hw.symm
  clear hw
  subst hw'
  have c0 := HA.out.node.c0
  go_wp2_with fail
  refine (npost1 N D K r S H T L R C m _ _ 0 quiet sz #[] 0 t _ HA.out HT.out).mono ?_
  rintro e w3 ⟨C3, m3, sz3, lf3, lsz3, f3, rfl, ha3, hM3⟩
  replace HA := Lib.hid ha3
  replace HM := Lib.hid ((HM.out.wide (T := [D, S, L, H]) (by simp)).trans (hM3.wide (by simp)))
  clear ha3 hM3 c0
  go_wp2_with fail
  refine (nothers0 N D K S _ 1 _ HA.out.node (HA.out.sit.2.1 1 _ rfl) HA.out.tab).mono ?_
  rintro e w4 ⟨⟨a4, c4, rfl⟩, hM4⟩
  replace HA := Lib.hid (HA.out.mod0 hM4)
  replace HM := Lib.hid (HM.out.trans (hM4.wide (by simp)))
  clear hM4
  have c0 := HA.out.node.c0
  go_wp2_with fail
  refine (nclose0 N D K S r H T L R _ _ 1 (now + 1) 0 1 1 1 0 quiet _ HA.out.node HA.out.sit HA.out.turn HA.out.det HA.out.tab HQ.out.2 (by simp [HA.out.sep])).mono ?_
  rintro e w5 ⟨rfl, hs5, hM5⟩
  replace HA := Lib.hid (HA.out.setSit (met' := 1) (done' := 0) (quiet' := quiet + 1) hs5 hM5)
  replace HM := Lib.hid (HM.out.trans (hM5.wide (by simp)))
  clear hs5 hM5 c0
  have s3 : w5.cell? ⟨S, 3, none⟩ = some (.pointer (some ⟨T, 0, none⟩)) := HA.out.sit.2.1 3 _ rfl
  go_wp2_with fail
  refine (turn_decided T 0 1 1 _ HA.out.turn).mono ?_
  rintro e w6 ⟨rfl, hM6⟩
  have hM6' := hM6.alloc (.cells #[.int .u64 0, .int .u64 0] 45)
  replace HA := Lib.hid (HA.out.mod0 hM6')
  replace HM := Lib.hid (HM.out.trans (hM6'.wide (by simp)))
  clear hM6 hM6' s3
  go_wp2_with fail
  go_region
  go_wp2_with fail
  refine (nsettle1 N D K r S H T L R C3 m3 (now + 1) (quiet + 1) f3 sz3 lf3 lsz3 t _ (HA.out.mod0 (Mod.refl [] _).drew)).mono ?_
  rintro e w7 ⟨⟨g, cap, rfl, hn7, hev, hg⟩, hM7⟩
  have HF := Lib.hid (And.intro hn7 (And.intro hev (And.intro hg hM7)))
  clear hn7 hev hg hM7
  go_wp2_with fail
  go_ret
  obtain ⟨hn7, hev, hg, hM7⟩ := HF.out
  have hs := HM.out.size
  exact ⟨g, cap, rfl, hn7, hev, by simp at hs hg ⊢; omega, (HM.out.drew.wide (T := [N, D, K, S, H, L, R]) (by simp)).trans (hM7.wide (by simp))⟩

end Go.Proofs.YtaaaiggbnkeblaaGreatDoor
