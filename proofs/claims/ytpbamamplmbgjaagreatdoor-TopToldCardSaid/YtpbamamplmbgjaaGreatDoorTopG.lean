/-
  The walk of a member's closing where it is alone.
-/
import Derived.Test.YtpbamamplmbgjaaGreatDoorTopL
namespace Go.Proofs.YtpbamamplmbgjaaGreatDoor
set_option linter.unusedSimpArgs false
set_option linter.unusedVariables false
open Go.RowKit

set_option maxRecDepth 100000 in
set_option maxHeartbeats 4000000 in
theorem nclosing0 (N D K S r : Nat) (ev : Value) (was now : Int) (w : World) (h : NodeAt w N D K (some ⟨S, 0, none⟩) ev was) (hs : w.cell? ⟨S, 1, none⟩ = some (.int .u64 1)) (hd : DetAt w D r now) (ht : Tab w) :
    Calls Tryz.prog 254 #[.pointer (some ⟨N, 0, none⟩)] w fun e w' => e = .returned (.bool false) ∧ Mod [] w w' := by
  have H := Lib.hid h
  have HD := Lib.hid hd
  have HT := Lib.hid ht
  have c0 := h.c0
  clear h hd ht
  have hb : bits .and .u64 1 1 = 1 := by decide
  have hb0 : bits .and .u64 0 1 = 0 := by decide
  go_enter Tryz.func254, Tryz.ntmps254
  go_wp2_with fail
  go_region_held3 (fun w' => w'.cell? ⟨N, 0, none⟩ = some (.pointer (some ⟨S, 0, none⟩)) ∧ w'.cell? ⟨S, 1, none⟩ = some (.int .u64 1)) (first | exact ⟨c0, hs⟩ | exact ⟨HM6.out.at c0 (by simp), HM6.out.at hs (by simp)⟩) ((go_at_call 255; refine (nlive0 N D K r (some ⟨S, 0, none⟩) ev was now _ (H.out.mod (Mod.refl [] _).drew (by simp)) (HD.out.mod (Mod.refl [] _).drew (by simp) (by simp)) (HT.out.mod (Mod.refl [] _).drew (by simp))).mono ?_; rintro e w6 ⟨rfl, hM6⟩; have HM6 := Lib.hid ((Mod.refl [] w).drew.trans hM6); clear hM6))
  have HT6 := Lib.hid (HT.out.mod HM6.out (by simp))
  have d0 := HM6.out.at c0 (by simp)
  have d2 := HM6.out.at H.out.c2 (by simp)
  have d6 := HM6.out.at H.out.c6 (by simp)
  have ds := HM6.out.at hs (by simp)
  clear c0 hs
  go_wp2_with fail
  refine (first_is 1 0 (by decide) (by decide) (by decide) _ HT6.out).mono ?_
  rintro e w7 ⟨rfl, rfl⟩
  go_wp2_with fail
  go_region_held3 (fun w' => w'.cell? ⟨N, 0, none⟩ = some (.pointer (some ⟨S, 0, none⟩)) ∧ w'.cell? ⟨S, 1, none⟩ = some (.int .u64 1) ∧ w'.cell? ⟨N, 2, none⟩ = some (.int .i64 0) ∧ w'.cell? ⟨N, 6, none⟩ = some (.int .u64 0)) (first | exact ⟨d0, ds, d2, d6⟩ | exact ⟨HM8.out.at d0 (by simp), HM8.out.at ds (by simp), HM8.out.at d2 (by simp), HM8.out.at d6 (by simp)⟩) ((go_at_call 255; refine (nlive0 N D K r (some ⟨S, 0, none⟩) ev was now _ ((H.out.mod HM6.out (by simp)).mod (Mod.refl [] _).drew (by simp)) ((HD.out.mod HM6.out (by simp) (by simp)).mod (Mod.refl [] _).drew (by simp) (by simp)) (HT6.out.mod (Mod.refl [] _).drew (by simp))).mono ?_; rintro e w8 ⟨rfl, hM8⟩; have HM8 := Lib.hid ((Mod.refl [] _).drew.trans hM8); clear hM8))
  go_wp2
  go_ret
  exact ⟨rfl, HM6.out.trans HM8.out⟩

set_option maxRecDepth 100000 in
set_option maxHeartbeats 4000000 in
theorem nclose0 (N D K S r H T L R : Nat) (ck : Option Addr) (ev : Value) (was now n id ms met done quiet : Int) (w : World) (h : NodeAt w N D K (some ⟨S, 0, none⟩) ev was) (hs : RowAt w S #[.int .u64 1, .int .u64 1, .pointer (some ⟨H, 0, none⟩), .pointer (some ⟨T, 0, none⟩), .pointer ck, .int .u64 met, .map (some L), .int .u64 done, .int .u64 0, .map (some R), .int .i64 quiet, .bool false]) (hu : Turn0 w T n id ms) (hd : DetAt w D r now) (ht : Tab w)
    (hq : 0 ≤ quiet ∧ quiet < 1000) (hne : N ≠ S ∧ D ≠ S ∧ r ≠ S ∧ 1 ≠ S) :
    Calls Tryz.prog 189 #[.pointer (some ⟨N, 0, none⟩)] w fun e w' => e = .returned (.slice none 0 0) ∧ RowAt w' S #[.int .u64 1, .int .u64 1, .pointer (some ⟨H, 0, none⟩), .pointer (some ⟨T, 0, none⟩), .pointer ck, .int .u64 met, .map (some L), .int .u64 done, .int .u64 0, .map (some R), .int .i64 (quiet + 1), .bool false] ∧ Mod [S] w w' := by
  have HN := Lib.hid h
  have HS := Lib.hid hs
  have HD := Lib.hid hd
  have HT := Lib.hid ht
  have HX := Lib.hid hne
  have c0 := h.c0
  have s3 := hs.2.1 3 _ rfl
  have hq1 : wrap64 (quiet + 1) = quiet + 1 := wrap_small (by omega) (by omega)
  clear h hs hd ht hne hq
  go_enter Tryz.func189, Tryz.ntmps189
  go_wp2_with fail
  refine (turn_decided T n id ms _ hu).mono ?_
  rintro e w1 ⟨rfl, hM⟩
  have HM1 := Lib.hid (hM.alloc (.cells #[.int .u64 0, .int .u64 0] 73))
  have HS1 := Lib.hid (HS.out.mod HM1.out (by simp))
  have d0 := HM1.out.at c0 (by simp)
  have d10 := HS1.out.2.1 10 _ rfl
  have f10 := HS1.out.2.2 10
  clear hM c0 s3
  have hX := HX.out
  have hm2 : Mod [S] (w1.alloc (.cells #[.int .u64 0, .int .u64 0] 73)) ((w1.alloc (.cells #[.int .u64 0, .int .u64 0] 73)).setCell ⟨S, 10, none⟩ (.int .i64 (quiet + 1))) := (Mod.refl _ _).setCell (.inl (by simp)) _
  have HS2 := Lib.hid (HS1.out.set (k := 10) (v := .int .i64 (quiet + 1)) rfl (by simp))
  have HN2 := Lib.hid ((HN.out.mod HM1.out (by simp)).mod hm2 (by simpa using hX.1))
  have HD2 := Lib.hid ((HD.out.mod HM1.out (by simp) (by simp)).mod hm2 (by simpa using hX.2.1) (by simpa using hX.2.2.1))
  have HT2 := Lib.hid ((HT.out.mod HM1.out (by simp)).mod hm2 (by simpa using hX.2.2.2))
  have HM2 := Lib.hid ((HM1.out.mono (by simp)).trans hm2)
  clear hX hm2
  go_upto_region 5 with fail
  generalize (w1.alloc (.cells #[.int .u64 0, .int .u64 0] 73)).setCell ⟨S, 10, none⟩ (.int .i64 (quiet + 1)) = W at HS2 HN2 HD2 HT2 HM2 ⊢
  clear d0 d10 f10 HS1 HM1 HN HS HD HT HX
  have d0 := HN2.out.c0
  have d11 : W.cell? ⟨S, 11, none⟩ = some (.bool false) := HS2.out.2.1 11 _ rfl
  have d1 : W.cell? ⟨S, 1, none⟩ = some (.int .u64 1) := HS2.out.2.1 1 _ rfl
  go_wp2_with fail
  refine (nclosing0 N D K S r ev was now _ HN2.out d1 HD2.out HT2.out).mono ?_
  rintro e w3 ⟨rfl, hM3⟩
  have HM3 := Lib.hid hM3
  clear hM3
  go_wp2
  go_ret
  exact ⟨rfl, HS2.out.mod HM3.out (by simp), HM2.out.trans (HM3.out.mono (by simp))⟩

end Go.Proofs.YtpbamamplmbgjaaGreatDoor
