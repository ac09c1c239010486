/-
  The walks of package shelf: Put, Get, Low.
-/
import Derived.Test.YtpbamamplmbgjaaGreatDoorTopS
import Derived.Test.YtpbamamplmbgjaaGreatDoorTopF
namespace Go.Proofs.YtpbamamplmbgjaaGreatDoor
set_option linter.unusedSimpArgs false
set_option linter.unusedVariables false
open Go.RowKit

set_option maxRecDepth 100000 in
set_option maxHeartbeats 4000000 in
theorem sput_ok (s : Nat) (low : Int) (r : Nat → P) (n a b : Int) (t : ByteArray) (w : World) (h : ShelfRaw w s low r) (n0 : 0 < n) (n1 : n < 18446744073709551615) (ht : t.size ≤ 64) (hh : hasP low r n = false) (hw : within low n = true) :
    Calls Tryz.prog 291 #[.pointer (some ⟨s, 0, none⟩), .int .u64 n, .agg #[.int .i64 a, .int .u64 b, .string t]] w fun e w' => e = .returned (.int .i64 0) ∧ ShelfRaw w' s low (putP r (n.toNat % 64) (n, (a, b, t))) ∧ Mod [s] w w' := by
  obtain ⟨k, hk⟩ : ∃ k, n.toNat % 64 = k := ⟨_, rfl⟩
  rw [hk]
  have hk8 : k < 64 := by omega
  have hln : low < n := by
    have : within low n = true := hw
    unfold within at this
    simp at this
    exact this.1
  have hlo := h.l0
  have hd1 : (n == 0) = false := by simp; omega
  have hd2 : (n == 18446744073709551615) = false := by simp; omega
  have hd3 : decide (n ≤ low) = false := by simp; omega
  have H := Lib.hid h
  have HK := Lib.hid hk
  have HH := Lib.hid hh
  have HW := Lib.hid hw
  have HN := Lib.hid (And.intro n0 n1)
  obtain ⟨z, hz⟩ : ∃ z, t.size = z := ⟨_, rfl⟩
  have hzd : decide ((64:Int) < (z:Int)) = false := by simp; omega
  have hsl := h.lt
  clear h hk hh hw n0 n1 ht hln hlo
  go_enter Tryz.func291, Tryz.ntmps291
  go_upto_region 1 with fail
  have HMw := Lib.hid ((Mod.refl [] w).alloc (.cells #[.int .i64 a, .int .u64 b, .string t] 189))
  have HU := Lib.hid (heap_new w (.cells #[.int .i64 a, .int .u64 b, .string t] 189))
  have hne : ¬ w.heap.size = s := by omega
  generalize hB : w.heap.size = B at HU hne ⊢
  generalize w.alloc (.cells #[.int .i64 a, .int .u64 b, .string t] 189) = W0 at HMw HU ⊢
  replace H := Lib.hid (H.out.mod HMw.out (by simp))
  have u0 : W0.cell? ⟨B, 0, none⟩ = some (.int .i64 a) := cell_in HU.out rfl
  have u1 : W0.cell? ⟨B, 1, none⟩ = some (.int .u64 b) := cell_in HU.out rfl
  have u2 : W0.cell? ⟨B, 2, none⟩ = some (.string t) := cell_in HU.out rfl
  have c256 := H.out.c256
  have s0 : W0.cell? ⟨s, k * 4, none⟩ = some (.int .u64 (r k).1) := H.out.ring k hk8 0 _ rfl
  have s1 : W0.cell? ⟨s, k * 4 + 1, none⟩ = some (.int .i64 (r k).2.1) := H.out.ring k hk8 1 _ rfl
  have s2 : W0.cell? ⟨s, k * 4 + 2, none⟩ = some (.int .u64 (r k).2.2.1) := H.out.ring k hk8 2 _ rfl
  have s3 : W0.cell? ⟨s, k * 4 + 3, none⟩ = some (.string (r k).2.2.2) := H.out.ring k hk8 3 _ rfl
  have q0 := (H.out.free (k * 4) (by omega)).2
  have q1 := (H.out.free (k * 4 + 1) (by omega)).2
  have q2 := (H.out.free (k * 4 + 2) (by omega)).2
  have q3 := (H.out.free (k * 4 + 3) (by omega)).2
  rw [Nat.zero_add] at q0 q1 q2 q3
  have hfin := H.out.mod (Mod.refl [] _).drew (by simp)
  have FIN := Lib.hid (hfin.setP k hk8 (n, (a, b, t)))
  clear hfin
  go_wp2_with (first | (go_at_call 270; refine (shas_any s low r n _ H.out (Int.le_of_lt HN.out.1) (Int.le_of_lt HN.out.2)).mono ?_; rintro e w1 ⟨rfl, rfl⟩; rw [HH.out]) | (go_at_call 302; refine (swithin_any s low r n _ H.out (Int.le_of_lt HN.out.1) (Int.le_of_lt HN.out.2)).mono ?_; rintro e w1 ⟨rfl, rfl⟩; rw [HW.out]))
  go_region_with (go_at_call 299; refine (sat_any s low r n _ (H.out.mod (Mod.refl [] _).drew (by simp)) (Int.le_of_lt HN.out.1) (Int.le_of_lt HN.out.2) k HK.out).mono ?_; rintro e w1 ⟨rfl, rfl⟩)
  all_goals
    go_wp2_with fail
    go_ret
    exact ⟨rfl, FIN.out, (HMw.out.mono (by simp)).drew.setCell (.inl (by simp)) _ |>.setCell (.inl (by simp)) _ |>.setCell (.inl (by simp)) _ |>.setCell (.inl (by simp)) _⟩

theorem Tryz.size_msg : (Tryz.prog.info? 189).map (·.size) = some 3 := by kernel_rfl

set_option maxRecDepth 100000 in
set_option maxHeartbeats 4000000 in
theorem sget_has (s : Nat) (low : Int) (r : Nat → P) (n a b : Int) (t : ByteArray) (w : World) (h : ShelfRaw w s low r) (n0 : 0 < n) (n1 : n ≤ 18446744073709551615) (hh : hasP low r n = true) (hr : (r (n.toNat % 64)).2 = (a, b, t)) :
    Calls Tryz.prog 296 #[.pointer (some ⟨s, 0, none⟩), .int .u64 n] w fun e w' => e = .returned (.tuple #[.agg #[.int .i64 a, .int .u64 b, .string t], .int .i64 0]) ∧ Mod [] w w' := by
  obtain ⟨k, hk⟩ : ∃ k, n.toNat % 64 = k := ⟨_, rfl⟩
  rw [hk] at hr
  have hk8 : k < 64 := by omega
  have hln : low < n := by
    unfold hasP within at hh
    simp at hh
    exact hh.1.1
  have hlo := h.l0
  have hd1 : (n == 0) = false := by simp; omega
  have hd3 : decide (n ≤ low) = false := by simp; omega
  have hd4 : decide (0 < n) = true := by simp; omega
  have H := Lib.hid h
  have HK := Lib.hid hk
  have HH := Lib.hid hh
  have HN := Lib.hid (And.intro n0 n1)
  have hsl := h.lt
  have hne : ¬ s = w.heap.size := by omega
  have c256 := h.c256
  have s1 : w.cell? ⟨s, k * 4 + 1, none⟩ = some (.int .i64 (r k).2.1) := h.ring k hk8 1 _ rfl
  have s2 : w.cell? ⟨s, k * 4 + 2, none⟩ = some (.int .u64 (r k).2.2.1) := h.ring k hk8 2 _ rfl
  have s3 : w.cell? ⟨s, k * 4 + 3, none⟩ = some (.string (r k).2.2.2) := h.ring k hk8 3 _ rfl
  rw [hr] at s1 s2 s3
  clear h hk hh n0 n1 hln hlo hr
  go_enter Tryz.func296, Tryz.ntmps296
  go_wp2_with (first | (go_at_call 270; refine (shas_any s low r n _ (H.out.mod ((Mod.refl [] _).alloc _) (by simp)) (Int.le_of_lt HN.out.1) HN.out.2).mono ?_; rintro e w1 ⟨rfl, rfl⟩; rw [HH.out]) | (go_at_call 299; refine (sat_any s low r n _ (H.out.mod ((Mod.refl [] _).alloc _) (by simp)) (Int.le_of_lt HN.out.1) HN.out.2 k HK.out).mono ?_; rintro e w1 ⟨rfl, rfl⟩))
  refine bodyPost_ret (results_row_tmp rfl _ _ w.heap.size 189 _ (0, 0) _ rfl (heap_new _ _) Tryz.underlying189 rfl Tryz.size_msg) rfl ?_
  exact ⟨rfl, (Mod.refl _ _).alloc _⟩

theorem slow_any (s : Nat) (low : Int) (r : Nat → P) (w : World) (h : ShelfRaw w s low r) :
    Calls Tryz.prog 260 #[.pointer (some ⟨s, 0, none⟩)] w fun e w' => e = .returned (.int .u64 low) ∧ w' = w := by
  have c256 := h.c256
  clear h
  go_enter Tryz.func260, Tryz.ntmps260
  go_wp2
  go_ret
  exact ⟨rfl, rfl⟩

end Go.Proofs.YtpbamamplmbgjaaGreatDoor
