/-
  The walk of TopWaits.
-/
import Derived.Test.YtpbamamplmbgjaaGreatDoorWaitC
import Derived.Test.YtpbamamplmbgjaaGreatDoorTopSh
namespace Go.Proofs.YtpbamamplmbgjaaGreatDoor
set_option linter.unusedSimpArgs false
set_option linter.unusedVariables false
open Go.RowKit

set_option maxRecDepth 100000 in
set_option maxHeartbeats 8000000 in
theorem walk_TopWaits (w : World) (base n : Nat) (hn : n < 256) (now : Nat) (hnow : now < 4294967296) (ht : Tab w) :
    Calls Tryz.prog 4 #[.float .f64 base, .int .u8 n, .int .u32 now] w (TruePost w) := by
  obtain ⟨G, hW⟩ := wait_det base n hn
  obtain ⟨t, htk, hT⟩ := ticks_det G
  obtain ⟨un, hun⟩ : ∃ un, now + t = un := ⟨_, rfl⟩
  have hm0 := ((Mod.refl [] w).alloc (.cells #[.map none] 49)).alloc (.cells #[.int .i64 5, .int .u64 0, .int .i64 1] 24)
  have hr0 := row_alloc (o := .cells #[.int .i64 5, .int .u64 0, .int .i64 1] 24) (heap_new w (.cells #[.map none] 49))
  have hr1 := heap_at (w.alloc (.cells #[.map none] 49)) (.cells #[.int .i64 5, .int .u64 0, .int .i64 1] 24) (w.heap.size + 1) (by simp)
  have HM0 := Lib.hid hm0
  have HR0 := Lib.hid hr0
  have HR1 := Lib.hid hr1
  have HW := Lib.hid hW
  have HTK := Lib.hid hT
  have HT := Lib.hid ht
  have HB := Lib.hid (And.intro htk hun)
  have w1 : IntKind.u64.wrap (now : Int) = now := IntWalk.u64_in _ (by omega)
  have w2 : IntKind.i64.wrap (n : Int) = n := IntWalk.i64_in _ (by omega)
  have hns : (now : Int) < 4294967296 := by omega
  have hn0 : (n : Int) < 256 := by omega
  clear hm0 hr0 hr1 hW hT ht htk hun
  go_enter Tryz.func4, Tryz.ntmps4
  go_upto_region 3 with fail
  have c0 := cell_in HR1.out (show (#[Value.int .i64 5, .int .u64 0, .int .i64 1] : Array Value)[0]? = some (.int .i64 5) from rfl)
  have c1 := cell_in HR1.out (show (#[Value.int .i64 5, .int .u64 0, .int .i64 1] : Array Value)[1]? = some (.int .u64 0) from rfl)
  have c2 := cell_in HR1.out (show (#[Value.int .i64 5, .int .u64 0, .int .i64 1] : Array Value)[2]? = some (.int .i64 1) from rfl)
  have HD0 := Lib.hid (And.intro (cell_in HR0.out (show (#[Value.map none] : Array Value)[0]? = some (.map none) from rfl)) (free_in (j := 0) HR0.out))
  have hdw : w.heap.size ≠ 1 := by have := HT.out.1; omega
  generalize (w.alloc (.cells #[.map none] 49)).alloc (.cells #[.int .i64 5, .int .u64 0, .int .i64 1] 24) = W at HM0 c0 c1 c2 HD0 ⊢
  obtain ⟨d, hd⟩ : ∃ d, w.heap.size = d := ⟨_, rfl⟩
  have HDW := Lib.hid (And.intro hd hdw)
  rw [hd] at c0 c1 c2 HD0 ⊢
  clear hd hdw HR0 HR1
  go_wp2_with fail
  refine (raise_one d n base G now t un HB.out.2 (by have := HB.out; omega) HW.out HTK.out _ HD0.out.1 HD0.out.2).mono ?_
  rintro _ w5 ⟨rfl, ⟨b, hd5, hb5, hbg⟩, hf5, hM5⟩
  have hdd := HDW.out.1
  have HBW := Lib.hid (show w.heap.size ≤ b from Nat.le_trans HM0.out.size hbg)
  have HM := Lib.hid (HM0.out.step hM5 (fun x hx => .inr (by simp at hx; omega)))
  have HS := Lib.hid (And.intro hd5 (show OneDoubt w5 b 2 now 0 un from hb5))
  clear hd5 hb5 hbg hf5 hM5 hdd HD0 HM0 c0 c1 c2
  go_wp2_with fail
  refine (HW.out _).mono ?_
  rintro _ w6 ⟨rfl, hM6⟩
  replace HS := Lib.hid (And.intro (hM6.at HS.out.1 (by simp)) (HS.out.2.mod hM6 (by simp)))
  replace HM := Lib.hid (HM.out.trans hM6)
  clear hM6
  go_wp2_with fail
  refine (HTK.out _).mono ?_
  rintro _ w7 ⟨rfl, rfl⟩
  have w3 : IntKind.u64.wrap ((now : Int) + t) = un := by
    have h := HB.out
    rw [IntWalk.u64_in _ (by omega)]
    omega
  go_wp2_with fail
  refine (shown_is _ (HT.out.mod HM.out (by simp))).mono ?_
  rintro _ w7 ⟨rfl, hM7⟩
  replace HS := Lib.hid (And.intro (hM7.at HS.out.1 (by simp)) (HS.out.2.mod hM7 (by simp)))
  replace HM := Lib.hid (HM.out.trans hM7)
  clear hM7 w3
  by_cases hu0 : un = 0
  · subst hu0
    have hz := HS.out.2
    have HZ := Lib.hid (show OneDoubt w7 b 2 now 0 0 from hz)
    clear hz
    go_wp2_with fail
    refine (dover_yes d b 2 now 0 0 0 (Int.le_refl _) _ HS.out.1 HZ.out).mono ?_
    rintro _ w8 ⟨g, cap, rfl, ⟨c0, c1, c2⟩, hM8⟩
    have hbo : ∀ w : World, (binOp .eql 24 (.agg #[.int .i64 5, .int .u64 0, .int .i64 3]) (.agg #[.int .i64 5, .int .u64 0, .int .i64 3])).run Tryz.prog w = .ok (.bool true) w := fun w => by kernel_rfl
    have HM8 := Lib.hid (HM.out.step hM8 (fun x hx => .inr (by have := HBW.out; simp at hx; omega)))
    clear hM8
    go_wp2_with fail
    go_ret
    exact ⟨rfl, HM8.out⟩
  · have hg : (0 : Int) < un := by omega
    have hcase : ¬ ((now : Int) < un) ∨ ((now : Int) < un ∧ IntKind.u64.wrap ((un : Int) - 1) = (un : Int) - 1) := by
      by_cases h : (now : Int) < un
      · refine .inr ⟨h, ?_⟩
        have h := HB.out
        rw [IntWalk.u64_in _ (by omega)]
      · exact .inl h
    clear hu0 hns
    generalize (un : Int) = U at HS hg hcase ⊢
    generalize (now : Int) = V at HS hcase w1 ⊢
    have q1 : decide ((0 : Int) < U) = true := by simpa using hg
    clear hg
    rcases hcase with hg2 | ⟨hg2, w4⟩
    · have q2 : decide (V < U) = false := by simpa using hg2
      clear hg2
      go_wp2_with fail
      refine (dover_yes d b 2 V 0 U U (Int.le_refl _) _ HS.out.1 HS.out.2).mono ?_
      rintro _ w8 ⟨g, cap, rfl, ⟨c0, c1, c2⟩, hM8⟩
      have hbo : ∀ w : World, (binOp .eql 24 (.agg #[.int .i64 5, .int .u64 0, .int .i64 3]) (.agg #[.int .i64 5, .int .u64 0, .int .i64 3])).run Tryz.prog w = .ok (.bool true) w := fun w => by kernel_rfl
      have HM8 := Lib.hid (HM.out.step hM8 (fun x hx => .inr (by have := HBW.out; simp at hx; omega)))
      clear hM8
      go_wp2_with fail
      go_ret
      exact ⟨rfl, HM8.out⟩
    · have q2 : decide (V < U) = true := by simpa using hg2
      clear hg2
      go_wp2_with fail
      refine (dover_not d b 2 V 0 U (U - 1) (by omega) _ HS.out.1 HS.out.2).mono ?_
      rintro _ w8 ⟨rfl, hM8⟩
      replace HS := Lib.hid (And.intro (hM8.at HS.out.1 (by simp)) (HS.out.2.mod hM8 (by simp)))
      replace HM := Lib.hid (HM.out.trans hM8)
      clear hM8 w4
      go_wp2_with fail
      refine (dover_yes d b 2 V 0 U U (Int.le_refl _) _ HS.out.1 HS.out.2).mono ?_
      rintro _ w8 ⟨g, cap, rfl, ⟨c0, c1, c2⟩, hM8⟩
      have hbo : ∀ w : World, (binOp .eql 24 (.agg #[.int .i64 5, .int .u64 0, .int .i64 3]) (.agg #[.int .i64 5, .int .u64 0, .int .i64 3])).run Tryz.prog w = .ok (.bool true) w := fun w => by kernel_rfl
      have HM8 := Lib.hid (HM.out.step hM8 (fun x hx => .inr (by have := HBW.out; simp at hx; omega)))
      clear hM8
      go_wp2_with fail
      go_ret
      exact ⟨rfl, HM8.out⟩

end Go.Proofs.YtpbamamplmbgjaaGreatDoor
