/-
  The walks of a member's Live, Frozen, limit, others, notes, where its turn has just begun and it is alone.
-/
import Derived.Test.YtpbamamplmbgjaaGreatDoorTopN
import Derived.Test.YtpbamamplmbgjaaGreatDoorTopU
namespace Go.Proofs.YtpbamamplmbgjaaGreatDoor
set_option linter.unusedSimpArgs false
set_option linter.unusedVariables false
open Go.RowKit

set_option maxHeartbeats 2000000 in
theorem nlive0 (N D K r : Nat) (sit : Option Addr) (ev : Value) (was now : Int) (w : World) (h : NodeAt w N D K sit ev was) (hd : DetAt w D r now) (ht : Tab w) :
    Calls Tryz.prog 255 #[.pointer (some ⟨N, 0, none⟩)] w fun e w' => e = .returned (.int .u64 1) ∧ Mod [] w w' := by
  have HL := Lib.hid (live_one r w hd.roll0 ht)
  have c3 := h.c3
  have c0 := hd.roll
  clear h hd ht
  go_enter Tryz.func255, Tryz.ntmps255
  go_wp2_with fail
  refine HL.out.mono ?_
  rintro e w1 ⟨rfl, hM⟩
  have HM := Lib.hid hM
  clear hM
  go_wp2
  go_ret
  exact ⟨rfl, HM.out⟩

set_option maxHeartbeats 2000000 in
theorem nfrozen0 (N D K S T : Nat) (ev : Value) (was n id ms : Int) (w : World) (h : NodeAt w N D K (some ⟨S, 0, none⟩) ev was) (hs : w.cell? ⟨S, 3, none⟩ = some (.pointer (some ⟨T, 0, none⟩))) (ht : Turn0 w T n id ms) :
    Calls Tryz.prog 249 #[.pointer (some ⟨N, 0, none⟩)] w fun e w' => e = .returned (.bool false) ∧ Mod [] w w' := by
  have hpn : ∀ (a : Addr) (w : World), (binOp .eql 251 (.pointer (some a)) (.pointer none)).run Tryz.prog w = .ok (.bool false) w := fun a w => by kernel_rfl
  have HL := Lib.hid (turn_frozen T n id ms w ht)
  have c0 := h.c0
  clear h ht
  go_enter Tryz.func249, Tryz.ntmps249
  go_wp2_with fail
  refine HL.out.mono ?_
  rintro e w1 ⟨rfl, hM⟩
  have HM := Lib.hid hM
  clear hM
  go_wp2
  go_ret
  exact ⟨rfl, HM.out⟩

set_option maxHeartbeats 2000000 in
theorem nlimit0 (N D K S T H : Nat) (ev : Value) (was n id ms low : Int) (r : Nat → P) (x : Int) (w : World) (h : NodeAt w N D K (some ⟨S, 0, none⟩) ev was) (hs : w.cell? ⟨S, 3, none⟩ = some (.pointer (some ⟨T, 0, none⟩))) (hs2 : w.cell? ⟨S, 2, none⟩ = some (.pointer (some ⟨H, 0, none⟩))) (ht : Turn0 w T n id ms) (hh : ShelfRaw w H low r)
    (hN : low ≤ x) (hM : x < 18446744073709551615) (hall : ∀ m, low < m → m ≤ x → hasP low r m = true) (hend : hasP low r (x + 1) = false) :
    Calls Tryz.prog 295 #[.pointer (some ⟨N, 0, none⟩)] w fun e w' => e = .returned (.int .u64 x) ∧ Mod [] w w' := by
  have HT := Lib.hid ht
  have HN := Lib.hid h
  have HS := Lib.hid (And.intro hs hs2)
  have HR := Lib.hid (fun w' (hm : Mod [] w w') => sreach_any H low r x w' (hh.mod hm (by simp)) hN hM hall hend)
  have c0 := h.c0
  clear h ht hall hend hh
  go_enter Tryz.func295, Tryz.ntmps295
  go_wp2_with fail
  refine (turn_decided T n id ms _ HT.out).mono ?_
  rintro e w1 ⟨rfl, hM⟩
  have HM1 := Lib.hid (hM.alloc (.cells #[.int .u64 0, .int .u64 0] 73))
  have d0 := HM1.out.at c0 (by simp)
  have d3 := HM1.out.at hs (by simp)
  have d2 := HM1.out.at hs2 (by simp)
  clear hM
  go_wp2_with fail
  refine (turn_frozen T n id ms _ (HT.out.mod HM1.out (by simp))).mono ?_
  rintro e w2 ⟨rfl, hM2⟩
  have HM2 := Lib.hid (HM1.out.trans hM2)
  have e0 := HM2.out.at c0 (by simp)
  have e2 := HM2.out.at hs2 (by simp)
  clear hM2
  go_wp2_with fail
  refine (HR.out _ HM2.out).mono ?_
  rintro e w3 ⟨rfl, rfl⟩
  go_wp2
  go_ret
  exact ⟨rfl, HM2.out⟩

set_option maxHeartbeats 2000000 in
theorem nnotes_nil (N : Value) (w : World) :
    Calls Tryz.prog 183 #[N, .slice none 0 0] w fun e w' => e = .returned (.slice none 0 0) ∧ w' = w := by
  go_enter Tryz.func183, Tryz.ntmps183
  go_wp2_with fail
  refine wp_loop_rounds 1 ?_
  rw [rounds_succ]
  go_wp2
  go_ret
  exact ⟨rfl, rfl⟩

set_option maxHeartbeats 2000000 in
theorem nothers0 (N D K S : Nat) (ev : Value) (was : Int) (w : World) (h : NodeAt w N D K (some ⟨S, 0, none⟩) ev was) (hs : w.cell? ⟨S, 1, none⟩ = some (.int .u64 1)) (ht : Tab w) :
    Calls Tryz.prog 186 #[.pointer (some ⟨N, 0, none⟩)] w fun e w' => (∃ a c, e = .returned (.slice a 0 c)) ∧ Mod [] w w' := by
  have HT := Lib.hid ht
  have c0 := h.c0
  have c2 := h.c2
  clear h ht
  go_enter Tryz.func186, Tryz.ntmps186
  go_wp2_with fail
  go_region_held3 (fun w' => w'.cell? ⟨N, 0, none⟩ = some (.pointer (some ⟨S, 0, none⟩)) ∧ w'.cell? ⟨N, 2, none⟩ = some (.int .i64 0) ∧ w'.cell? ⟨S, 1, none⟩ = some (.int .u64 1)) (first | exact ⟨c0, c2, hs⟩ | exact ⟨HM6.out.at c0 (by simp), HM6.out.at c2 (by simp), HM6.out.at hs (by simp)⟩) ((first | (go_at_call 133; refine (less_is 1 0 0 (by decide) (by decide) _).mono ?_; rintro e w5 ⟨rfl, rfl⟩) | (go_at_call 85; refine (bnil_is _ (HT.out.mod (Mod.refl [] _).drew (by simp))).mono ?_; rintro e w6 ⟨⟨a6, c6, rfl⟩, hM6⟩; have HM6 := Lib.hid ((Mod.refl [] w).drew.trans hM6); clear hM6)))
  go_wp2
  go_ret
  exact ⟨⟨_, _, rfl⟩, HM6.out⟩

end Go.Proofs.YtpbamamplmbgjaaGreatDoor
