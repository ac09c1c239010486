/-
  What TopChoice calls of the packages band and ballot.
  The walk of letter.May at a letter without lists.
  A turn's cells; the walks of freeze, own.
-/
import Derived.Test.YtaaaiggbnkeblaaGreatDoorMTopE
import Derived.Laws.Externs
import Derived.Laws.Bits64b
import Derived.OwnWalk
namespace Go.Proofs.YtaaaiggbnkeblaaGreatDoor
set_option linter.unusedSimpArgs false
set_option linter.unusedVariables false
open Go.RowKit

def cnt8 (x : Nat) : Nat := x % 2 + x / 2 % 2 + x / 4 % 2

set_option maxRecDepth 100000 in
set_option maxHeartbeats 4000000 in
theorem ones_small (x : Nat) (h : x < 8) (w : World) : Calls Tryz.prog 64 #[.int .u64 x] w fun e w' => e = .returned (.int .i64 (cnt8 x)) ∧ w = w' := by
  have h8 : x = 0 ∨ x = 1 ∨ x = 2 ∨ x = 3 ∨ x = 4 ∨ x = 5 ∨ x = 6 ∨ x = 7 := by omega
  rcases h8 with rfl | rfl | rfl | rfl | rfl | rfl | rfl | rfl
  all_goals
    go_enter Tryz.func64, Tryz.ntmps64
    go_wp2_with fail
    go_ret
    exact ⟨ret_int (by kernel_rfl), rfl⟩

theorem many_small (x : Nat) (h : x < 8) (w : World) : Calls Tryz.prog 18 #[.int .u64 x] w fun e w' => e = .returned (.int .i64 (cnt8 x)) ∧ w = w' := by
  have H := Lib.hid (ones_small x h)
  clear h
  go_enter Tryz.func18, Tryz.ntmps18
  go_wp2_with fail
  refine (H.out _).mono ?_
  rintro _ w1 ⟨rfl, rfl⟩
  go_wp2_with fail
  go_ret
  exact ⟨rfl, rfl⟩

theorem major_is (b of' : Int) (p q : Nat) (r : Bool) (hp : bits .and .u64 b of' = p) (hq : bits .andNot .u64 of' b = q) (p8 : p < 8) (q8 : q < 8) (hr : decide (cnt8 q < cnt8 p) = r) (w : World) :
    Calls Tryz.prog 29 #[.int .u64 b, .int .u64 of'] w fun e w' => e = .returned (.bool r) ∧ w = w' := by
  have HP := Lib.hid (many_small p p8)
  have HQ := Lib.hid (many_small q q8)
  clear p8 q8
  go_enter Tryz.func29, Tryz.ntmps29
  go_wp2_with fail
  refine (HP.out _).mono ?_
  rintro _ w1 ⟨rfl, rfl⟩
  go_wp2_with fail
  refine (HQ.out _).mono ?_
  rintro _ w1 ⟨rfl, rfl⟩
  go_wp2_with fail
  go_ret
  exact ⟨rfl, rfl⟩

theorem owner_zero (w : World) : Calls Tryz.prog 30 #[.int .u64 0] w fun e w' => e = .returned (.tuple #[.int .u64 0, .int .i64 0, .bool false]) ∧ w = w' := by
  go_enter Tryz.func30, Tryz.ntmps30
  go_wp2_with fail
  go_ret3
  exact ⟨rfl, rfl⟩

theorem raise_is (a : Nat) (b top : Int) (hb : (b == 0) = false) (ht : decide (b < top) = false) (w : World) (h : w.cell? ⟨a, 0, none⟩ = some (.int .u64 top)) (hf : w.frozen? ⟨a, 0, none⟩ = false) :
    Calls Tryz.prog 130 #[.pointer (some ⟨a, 0, none⟩), .int .u64 b] w fun e w' => e = .returned (.int .i64 0) ∧ w' = w.setCell ⟨a, 0, none⟩ (.int .u64 b) := by
  go_enter Tryz.func130, Tryz.ntmps130
  go_wp2_with fail
  go_ret
  exact ⟨rfl, rfl⟩

theorem add64_run2 (x y : Nat) (hx : x + y < 18446744073709551616) (w : World) :
    (callFunc 37 #[.int .u64 x, .int .u64 y, .int .u64 0]).run Tryz.prog w = .ok (.value (.tuple #[.int .u64 (x + y : Nat), .int .u64 0])) w := by
  rw [run_callFunc_extern (e := add64Entry) Tryz.func37 (by kernel_rfl) (by kernel_rfl) (by kernel_rfl) (by kernel_rfl)]
  have := run_add64 (P := Tryz.prog) x y 0 (by omega) (by omega) (by omega) (by omega) w
  rw [this]
  rw [show ((x : Int) + y + 0) % 18446744073709551616 = ((x + y : Nat) : Int) by omega, show ((x : Int) + y + 0) / 18446744073709551616 = 0 by omega]
  rfl

set_option maxRecDepth 100000 in
set_option maxHeartbeats 2000000 in
theorem mul64_one (w : World) : Calls Tryz.prog 36 #[.int .u64 1, .int .u64 64] w fun e w' => e = .returned (.tuple #[.int .u64 0, .int .u64 64]) ∧ w = w' := by
  go_enter Tryz.func36, Tryz.ntmps36
  go_wp2_with fail
  go_ret2
  exact ⟨by kernel_rfl, rfl⟩

set_option maxRecDepth 100000 in
set_option maxHeartbeats 2000000 in
theorem number_one (w : World) : Calls Tryz.prog 8 #[.int .u64 1, .int .i64 0] w fun e w' => e = .returned (.tuple #[.int .u64 65, .int .i64 0]) ∧ w = w' := by
  have ha : ∀ w : World, (callFunc 37 #[.int .u64 64, .int .u64 1, .int .u64 0]).run Tryz.prog w = .ok (.value (.tuple #[.int .u64 65, .int .u64 0])) w := fun w => add64_run2 64 1 (by decide) w
  go_enter Tryz.func8, Tryz.ntmps8
  go_wp2_with fail
  refine (mul64_one _).mono ?_
  rintro _ w1 ⟨rfl, rfl⟩
  go_wp2_with fail
  go_ret2
  exact ⟨rfl, rfl⟩

/-- An acceptor: its top, what it accepted last. -/
structure AccAt (w : World) (a : Nat) (top old ms cut : Int) : Prop where
  c0 : w.cell? ⟨a, 0, none⟩ = some (.int .u64 top)
  c1 : w.cell? ⟨a, 1, none⟩ = some (.int .u64 old)
  c2 : w.cell? ⟨a, 2, none⟩ = some (.int .u64 ms)
  c3 : w.cell? ⟨a, 3, none⟩ = some (.int .u64 cut)
  f : ∀ j, w.frozen? ⟨a, j, none⟩ = false

theorem top_is (a : Nat) (top : Int) (w : World) (h : w.cell? ⟨a, 0, none⟩ = some (.int .u64 top)) : Calls Tryz.prog 31 #[.pointer (some ⟨a, 0, none⟩)] w fun e w' => e = .returned (.int .u64 top) ∧ w = w' := by
  go_enter Tryz.func31, Tryz.ntmps31
  go_wp2_with fail
  go_ret
  exact ⟨rfl, rfl⟩

theorem AccAt.mod {w w' : World} {S : List Nat} {a : Nat} {top old ms cut : Int} (h : AccAt w a top old ms cut) (hM : Mod S w w') (hs : a ∉ S) : AccAt w' a top old ms cut :=
  ⟨hM.at h.c0 hs, hM.at h.c1 hs, hM.at h.c2 hs, hM.at h.c3 hs, fun j => (hM.frozen (p := ⟨a, j, none⟩) (show a < w.heap.size from cell_lt' h.c0) hs).trans (h.f j)⟩

theorem Tryz.size_promise : (Tryz.prog.info? 85).map (·.size) = some 3 := by kernel_rfl
set_option maxRecDepth 100000 in
set_option maxHeartbeats 2000000 in
theorem prepare_is (a : Nat) (b top old ms cut : Int) (hb : (b == 0) = false) (ht : decide (b < top) = false) (w : World) (h : AccAt w a top old ms cut) :
    Calls Tryz.prog 80 #[.pointer (some ⟨a, 0, none⟩), .int .u64 b] w fun e w' => e = .returned (.tuple #[.agg #[.int .u64 old, .int .u64 ms, .int .u64 cut], .int .i64 0]) ∧ AccAt w' a b old ms cut ∧ Mod [a] w w' ∧ ∀ j, 4 ≤ j → w'.cell? ⟨a, j, none⟩ = w.cell? ⟨a, j, none⟩ := by
  have hal := cell_lt' h.c0
  have hm0 := (Mod.refl [] w).alloc (.cells #[.int .u64 0, .int .u64 0, .int .u64 0] 85)
  have H := Lib.hid (h.mod hm0 (by simp))
  have HK0 := Lib.hid (show ∀ j, 4 ≤ j → (w.alloc (.cells #[.int .u64 0, .int .u64 0, .int .u64 0] 85)).cell? ⟨a, j, none⟩ = w.cell? ⟨a, j, none⟩ from fun j _ => hm0.cell (p := ⟨a, j, none⟩) hal (by simp))
  have HROW := Lib.hid (heap_new w (.cells #[.int .u64 0, .int .u64 0, .int .u64 0] 85))
  have HM0 := Lib.hid hm0
  have HB := Lib.hid (And.intro hb ht)
  have hne : a ≠ w.heap.size := Nat.ne_of_lt hal
  clear h hm0 hb ht
  go_enter Tryz.func80, Tryz.ntmps80
  go_wp2_with fail
  generalize w.alloc (.cells #[.int .u64 0, .int .u64 0, .int .u64 0] 85) = W at H HROW HM0 HK0 ⊢
  obtain ⟨c, hc⟩ : ∃ c, w.heap.size = c := ⟨_, rfl⟩
  rw [hc] at HROW hne ⊢
  have HC := Lib.hid hc
  clear hc
  refine (raise_is a b top HB.out.1 HB.out.2 _ H.out.c0 (H.out.f 0)).mono ?_
  rintro _ w1 ⟨rfl, hw1⟩
  have hs1 : Mod [a] W w1 := by rw [hw1]; exact (Mod.refl [a] W).setCell (.inl (by simp)) _
  have hA1 : AccAt w1 a b old ms cut := by
    rw [hw1]
    exact ⟨cell_set_same H.out.c0, (cell_set_off _ _ _ _ (by simp)).trans H.out.c1, (cell_set_off _ _ _ _ (by simp)).trans H.out.c2, (cell_set_off _ _ _ _ (by simp)).trans H.out.c3, fun j => (World.frozen?_setCell _ _ _ _).trans (H.out.f j)⟩
  have HK1 := Lib.hid (show ∀ j, 4 ≤ j → w1.cell? ⟨a, j, none⟩ = w.cell? ⟨a, j, none⟩ from fun j hj => by
    rw [hw1]
    exact (cell_set_off _ _ _ _ (by simp; omega)).trans (HK0.out j hj))
  have hr1 := hs1.block c (Array.getElem?_eq_some_iff.1 HROW.out).1 (by simpa using Ne.symm hne) |>.trans HROW.out
  have c1 := hA1.c1
  have c2 := hA1.c2
  have c3 := hA1.c3
  have z0 := cell_in hr1 (show (#[Value.int .u64 0, .int .u64 0, .int .u64 0] : Array Value)[0]? = some (.int .u64 0) from rfl)
  have z1 := cell_in hr1 (show (#[Value.int .u64 0, .int .u64 0, .int .u64 0] : Array Value)[1]? = some (.int .u64 0) from rfl)
  have z2 := cell_in hr1 (show (#[Value.int .u64 0, .int .u64 0, .int .u64 0] : Array Value)[2]? = some (.int .u64 0) from rfl)
  have f0 := free_in (j := 0) hr1
  have f1 := free_in (j := 1) hr1
  have f2 := free_in (j := 2) hr1
  have HS := Lib.hid (And.intro hs1 (And.intro hA1 hr1))
  clear hw1 hs1 hA1 hr1
  go_wp2_with fail
  obtain ⟨hs1, hA1, hr1⟩ := HS.out
  have hM : Mod [c] w1 (((w1.setCell ⟨c, 0, none⟩ (.int .u64 old)).setCell ⟨c, 1, none⟩ (.int .u64 ms)).setCell ⟨c, 2, none⟩ (.int .u64 cut)) := (((Mod.refl [c] w1).setCell (.inl (by simp)) _).setCell (.inl (by simp)) _).setCell (.inl (by simp)) _
  have hrf : (((w1.setCell ⟨c, 0, none⟩ (.int .u64 old)).setCell ⟨c, 1, none⟩ (.int .u64 ms)).setCell ⟨c, 2, none⟩ (.int .u64 cut)).heap[c]? = some (.cells #[.int .u64 old, .int .u64 ms, .int .u64 cut] 85 (0, 0)) := by
    simp [World.setCell, Array.getElem?_modify, hr1]
  have hc := HC.out
  refine bodyPost_ret (results_row_tmp rfl _ _ c 85 _ (0, 0) _ rfl hrf Tryz.underlying85 rfl Tryz.size_promise) rfl ?_
  refine ⟨rfl, hA1.mod hM (by simpa using hne), ((HM0.out.mono (T := [a]) (by simp)).trans hs1).step hM (fun x hx => .inr (by simp at hx; omega)), fun j hj => (hM.cell (p := ⟨a, j, none⟩) (show a < w1.heap.size from cell_lt' hA1.c0) (by simpa using hne)).trans (HK1.out j hj)⟩

set_option maxRecDepth 100000 in
set_option maxHeartbeats 2000000 in
theorem accept_is (a : Nat) (b top old ms cut ms' cut' : Int) (hb : (b == 0) = false) (ht : decide (b < top) = false) (w : World) (h : AccAt w a top old ms cut) :
    Calls Tryz.prog 84 #[.pointer (some ⟨a, 0, none⟩), .int .u64 b, .agg #[.int .u64 ms', .int .u64 cut']] w fun e w' => e = .returned (.int .i64 0) ∧ AccAt w' a b b ms' cut' ∧ Mod [a] w w' ∧ ∀ j, 4 ≤ j → w'.cell? ⟨a, j, none⟩ = w.cell? ⟨a, j, none⟩ := by
  have hal := cell_lt' h.c0
  have hm0 := (Mod.refl [] w).alloc (.cells #[.int .u64 ms', .int .u64 cut'] 45)
  have H := Lib.hid (h.mod hm0 (by simp))
  have HK0 := Lib.hid (show ∀ j, 4 ≤ j → (w.alloc (.cells #[.int .u64 ms', .int .u64 cut'] 45)).cell? ⟨a, j, none⟩ = w.cell? ⟨a, j, none⟩ from fun j _ => hm0.cell (p := ⟨a, j, none⟩) hal (by simp))
  have HROW := Lib.hid (heap_new w (.cells #[.int .u64 ms', .int .u64 cut'] 45))
  have HM0 := Lib.hid hm0
  have HB := Lib.hid (And.intro hb ht)
  have hne : a ≠ w.heap.size := Nat.ne_of_lt hal
  clear h hm0 hb ht
  go_enter Tryz.func84, Tryz.ntmps84
  go_wp2_with fail
  generalize w.alloc (.cells #[.int .u64 ms', .int .u64 cut'] 45) = W at H HROW HM0 HK0 ⊢
  generalize w.heap.size = c at HROW hne ⊢
  refine (raise_is a b top HB.out.1 HB.out.2 _ H.out.c0 (H.out.f 0)).mono ?_
  rintro _ w1 ⟨rfl, hw1⟩
  have hs1 : Mod [a] W w1 := by rw [hw1]; exact (Mod.refl [a] W).setCell (.inl (by simp)) _
  have hA1 : AccAt w1 a b old ms cut := by
    rw [hw1]
    exact ⟨cell_set_same H.out.c0, (cell_set_off _ _ _ _ (by simp)).trans H.out.c1, (cell_set_off _ _ _ _ (by simp)).trans H.out.c2, (cell_set_off _ _ _ _ (by simp)).trans H.out.c3, fun j => (World.frozen?_setCell _ _ _ _).trans (H.out.f j)⟩
  have HK1 := Lib.hid (show ∀ j, 4 ≤ j → w1.cell? ⟨a, j, none⟩ = w.cell? ⟨a, j, none⟩ from fun j hj => by
    rw [hw1]
    exact (cell_set_off _ _ _ _ (by simp; omega)).trans (HK0.out j hj))
  have hr1 := hs1.block c (Array.getElem?_eq_some_iff.1 HROW.out).1 (by simpa using Ne.symm hne) |>.trans HROW.out
  have c1 := hA1.c1
  have c2 := hA1.c2
  have c3 := hA1.c3
  have z0 := cell_in hr1 (show (#[Value.int .u64 ms', .int .u64 cut'] : Array Value)[0]? = some (.int .u64 ms') from rfl)
  have z1 := cell_in hr1 (show (#[Value.int .u64 ms', .int .u64 cut'] : Array Value)[1]? = some (.int .u64 cut') from rfl)
  have f1 := hA1.f 1
  have f2 := hA1.f 2
  have f3 := hA1.f 3
  have HS := Lib.hid (And.intro hs1 hA1)
  clear hw1 hs1 hA1 hr1
  go_wp2_with fail
  go_ret
  obtain ⟨hs1, hA1⟩ := HS.out
  refine ⟨rfl, ⟨?_, ?_, ?_, ?_, fun j => by simp only [World.frozen?_setCell]; exact hA1.f j⟩, (((((HM0.out.mono (T := [a]) (by simp)).trans hs1).setCell (.inl (by simp)) _).setCell (.inl (by simp)) _).setCell (.inl (by simp)) _), fun j hj => (cell_set_off _ _ _ _ (by simp; omega)).trans ((cell_set_off _ _ _ _ (by simp; omega)).trans ((cell_set_off _ _ _ _ (by simp; omega)).trans (HK1.out j hj)))⟩
  · exact (cell_set_off _ _ _ _ (by simp)).trans ((cell_set_off _ _ _ _ (by simp)).trans ((cell_set_off _ _ _ _ (by simp)).trans hA1.c0))
  · exact (cell_set_off _ _ _ _ (by simp)).trans ((cell_set_off _ _ _ _ (by simp)).trans (cell_set_same hA1.c1))
  · exact (cell_set_off _ _ _ _ (by simp)).trans (cell_set_same ((cell_set_off _ _ _ _ (by simp)).trans hA1.c2))
  · exact cell_set_same ((cell_set_off _ _ _ _ (by simp)).trans ((cell_set_off _ _ _ _ (by simp)).trans hA1.c3))

end Go.Proofs.YtaaaiggbnkeblaaGreatDoor

namespace Go.Proofs.YtaaaiggbnkeblaaGreatDoor
set_option linter.unusedSimpArgs false
set_option linter.unusedVariables false
open Go.RowKit

/-- A letter without lists, as a value: what a turn writes. -/
structure Let where
  (kind from' to' : Nat) (seq id ms bal old nid nms cut : Int)
def Let.v (l : Let) : Array Value := #[.int .i64 l.kind, .int .i64 l.from', .int .i64 l.to', .int .u64 l.seq, .int .i64 0, .slice none 0 0, .int .u64 l.id, .int .u64 l.ms, .int .u64 l.bal, .int .u64 l.old, .int .u64 l.nid, .int .u64 l.nms, .int .u64 l.cut, .slice none 0 0, .slice none 0 0, .float .f64 0]

theorem lnode_is (n : Nat) (hn : n < 64) (w : World) : Calls Tryz.prog 89 #[.int .i64 n] w fun e w' => e = .returned (.bool true) ∧ w = w' := by
  have h0 : (0 : Int) ≤ n := by omega
  have h1 : (n : Int) < 64 := by omega
  go_enter Tryz.func89, Tryz.ntmps89
  go_wp2_with fail
  go_ret
  exact ⟨by simp [*], rfl⟩

theorem cont_upd (f : Value) (w : World) : Calls Tryz.prog 90 #[.slice none 0 0, f] w fun e w' => e = .returned (.bool false) ∧ w = w' := by
  have HI : ∀ w, Calls Tryz.prog 134 #[.slice none 0 0, f] w fun e w' => e = .returned (.int .i64 (-1)) ∧ w = w' := fun w => by
    go_enter Tryz.func134, Tryz.ntmps134
    go_wp2_with fail
    refine wp_loop_rounds 1 ?_
    rw [rounds_succ]
    go_wp2_with fail
    go_ret
    exact ⟨rfl, rfl⟩
  go_enter Tryz.func90, Tryz.ntmps90
  go_wp2_with fail
  refine (HI _).mono ?_
  rintro _ w1 ⟨rfl, rfl⟩
  go_wp2_with fail
  go_ret
  exact ⟨rfl, rfl⟩

theorem cont_piece (f : Value) (w : World) : Calls Tryz.prog 91 #[.slice none 0 0, f] w fun e w' => e = .returned (.bool false) ∧ w = w' := by
  have HI : ∀ w, Calls Tryz.prog 135 #[.slice none 0 0, f] w fun e w' => e = .returned (.int .i64 (-1)) ∧ w = w' := fun w => by
    go_enter Tryz.func135, Tryz.ntmps135
    go_wp2_with fail
    refine wp_loop_rounds 1 ?_
    rw [rounds_succ]
    go_wp2_with fail
    go_ret
    exact ⟨rfl, rfl⟩
  go_enter Tryz.func91, Tryz.ntmps91
  go_wp2_with fail
  refine (HI _).mono ?_
  rintro _ w1 ⟨rfl, rfl⟩
  go_wp2_with fail
  go_ret
  exact ⟨rfl, rfl⟩

theorem smay_nil (w : World) : Calls Tryz.prog 92 #[.slice none 0 0] w fun e w' => e = .returned (.bool true) ∧ w = w' := by
  go_enter Tryz.func92, Tryz.ntmps92
  go_wp2_with fail
  refine wp_loop_rounds 1 ?_
  rw [rounds_succ]
  go_wp2_with fail
  go_ret
  exact ⟨rfl, rfl⟩

theorem bits_zero (w : World) : (callFunc 136 #[.float .f64 0]).run Tryz.prog w = .ok (.value (.int .u64 0)) w := by
  rw [run_callFunc_extern (e := Extern.MathFloatBits.float64bits) Tryz.func136 (by kernel_rfl) (by kernel_rfl) (by kernel_rfl) (by kernel_rfl)]
  rfl

set_option maxRecDepth 100000 in
set_option maxHeartbeats 2000000 in
theorem sign_zero (w : World) : Calls Tryz.prog 93 #[.float .f64 0] w fun e w' => e = .returned (.bool false) ∧ w = w' := by
  have hb := bits_zero
  go_enter Tryz.func93, Tryz.ntmps93
  go_wp2_with fail
  go_ret
  exact ⟨rfl, rfl⟩

set_option maxRecDepth 100000 in
set_option maxHeartbeats 4000000 in
theorem lmay_is (l : Let) (hk : 1 ≤ l.kind ∧ l.kind ≤ 14) (hf : l.from' < 64) (ht : l.to' < 64) (w : World) : Calls Tryz.prog 44 #[.agg l.v] w fun e w' => e = .returned (.bool true) ∧ Mod [] w w' := by
  obtain ⟨kd, fr, to', seq, id, ms, bal, old, nid, nms, cut⟩ := l
  unfold Let.v
  simp only at hk hf ht ⊢
  have HF := Lib.hid (lnode_is fr hf)
  have HT := Lib.hid (lnode_is to' ht)
  have k1 : (1 : Int) ≤ kd := by omega
  have k2 : (kd : Int) ≤ 14 := by omega
  have hm := (Mod.refl [] w).alloc (.cells #[.int .i64 kd, .int .i64 fr, .int .i64 to', .int .u64 seq, .int .i64 0, .slice none 0 0, .int .u64 id, .int .u64 ms, .int .u64 bal, .int .u64 old, .int .u64 nid, .int .u64 nms, .int .u64 cut, .slice none 0 0, .slice none 0 0, .float .f64 0] 42)
  have HM := Lib.hid hm
  have hz : (FloatKind.f64.format.order 0 0 == some .gt || FloatKind.f64.format.order 0 0 == some .eq) = true := by decide
  clear hk hf ht hm
  go_enter Tryz.func44, Tryz.ntmps44
  go_wp2_with (first | (go_at_call 89; refine (HF.out _).mono ?_; rintro _ w1 ⟨rfl, rfl⟩) | (go_at_call 89; refine (HT.out _).mono ?_; rintro _ w1 ⟨rfl, rfl⟩) | (go_at_call 89; refine (lnode_is 0 (by decide) _).mono ?_; rintro _ w1 ⟨rfl, rfl⟩) | (go_at_call 90; refine (cont_upd _ _).mono ?_; rintro _ w1 ⟨rfl, rfl⟩) | (go_at_call 91; refine (cont_piece _ _).mono ?_; rintro _ w1 ⟨rfl, rfl⟩) | (go_at_call 92; refine (smay_nil _).mono ?_; rintro _ w1 ⟨rfl, rfl⟩) | (go_at_call 93; refine (sign_zero _).mono ?_; rintro _ w1 ⟨rfl, rfl⟩))
  go_ret
  exact ⟨rfl, HM.out⟩

end Go.Proofs.YtaaaiggbnkeblaaGreatDoor

namespace Go.Proofs.YtaaaiggbnkeblaaGreatDoor
set_option linter.unusedSimpArgs false
set_option linter.unusedVariables false
open Go.RowKit

/-- A turn: its 215 cells. 0 top, 1-3 last, 4 me, 5-6 view, 7 frozen, 8 reach, 9 ballot, 10 seen, 11 live, 12 joins, 13 heard, 14.. promises, 206 far, 207 asked, 208-209 want, 210 taken, 211 done, 212-213 value, 214 told. -/
structure TurnAt (w : World) (t : Nat) (c : Nat → Value) : Prop where
  cell : ∀ j, j < 215 → w.cell? ⟨t, j, none⟩ = some (c j)
  free : ∀ j, w.frozen? ⟨t, j, none⟩ = false
theorem TurnAt.lt {w : World} {t : Nat} {c : Nat → Value} (h : TurnAt w t c) : t < w.heap.size := cell_lt' (h.cell 0 (by decide))
theorem TurnAt.mod {w w' : World} {S : List Nat} {t : Nat} {c : Nat → Value} (h : TurnAt w t c) (hM : Mod S w w') (hs : t ∉ S) : TurnAt w' t c :=
  ⟨fun j hj => hM.at (h.cell j hj) hs, fun j => (hM.frozen (p := ⟨t, j, none⟩) h.lt hs).trans (h.free j)⟩
def setC (c : Nat → Value) (k : Nat) (v : Value) : Nat → Value := fun j => if j = k then v else c j
theorem setC_same (c : Nat → Value) (k : Nat) (v : Value) : setC c k v k = v := by simp [setC]
theorem setC_other (c : Nat → Value) {k j : Nat} (v : Value) (h : j ≠ k) : setC c k v j = c j := by simp [setC, h]
theorem TurnAt.set {w : World} {t : Nat} {c : Nat → Value} (h : TurnAt w t c) (k : Nat) (hk : k < 215) (v : Value) : TurnAt (w.setCell ⟨t, k, none⟩ v) t (setC c k v) := by
  refine ⟨fun j hj => ?_, fun j => (World.frozen?_setCell _ _ _ _).trans (h.free j)⟩
  by_cases e : j = k
  · subst e
    rw [setC_same]
    exact cell_set_same (h.cell j hj)
  · rw [setC_other c v e]
    exact (cell_set_off _ _ _ _ (by simpa using fun e2 => e e2.symm)).trans (h.cell j hj)

theorem freeze_new (t : Nat) (c : Nat → Value) (reach : Int) (w : World) (h : TurnAt w t c) (h7 : c 7 = .bool false) :
    Calls Tryz.prog 32 #[.pointer (some ⟨t, 0, none⟩), .int .u64 reach] w fun e w' => e = .returned (.tuple #[]) ∧ TurnAt w' t (setC (setC c 7 (.bool true)) 8 (.int .u64 reach)) ∧ Mod [t] w w' := by
  have c7 := h.cell 7 (by decide)
  rw [h7] at c7
  have c8 := h.cell 8 (by decide)
  have f7 := h.free 7
  have f8 := h.free 8
  have H := Lib.hid h
  clear h h7
  go_enter Tryz.func32, Tryz.ntmps32
  go_wp2_with fail
  refine bodyPost_end (results_none rfl _ _ _) rfl ?_
  exact ⟨rfl, (H.out.set 7 (by decide) _).set 8 (by decide) _, ((Mod.refl [t] w).setCell (.inl (by simp)) _).setCell (.inl (by simp)) _⟩

theorem freeze_old (t : Nat) (c : Nat → Value) (reach : Int) (w : World) (h : TurnAt w t c) (h7 : c 7 = .bool true) :
    Calls Tryz.prog 32 #[.pointer (some ⟨t, 0, none⟩), .int .u64 reach] w fun e w' => e = .returned (.tuple #[]) ∧ Mod [] w w' := by
  have c7 := h.cell 7 (by decide)
  rw [h7] at c7
  clear h h7
  go_enter Tryz.func32, Tryz.ntmps32
  go_wp2_with fail
  refine bodyPost_end (results_none rfl _ _ _) rfl ?_
  exact ⟨rfl, Mod.refl _ _⟩

/-- The letter's cells, in a block of its own. -/
def LetAt (w : World) (b : Nat) (l : Let) : Prop := w.heap[b]? = some (.cells l.v 42 (0, 0))
theorem LetAt.mod {w w' : World} {S : List Nat} {b : Nat} {l : Let} (h : LetAt w b l) (hM : Mod S w w') (hs : b ∉ S) : LetAt w' b l := (hM.block b (Array.getElem?_eq_some_iff.1 h).1 hs).trans h

set_option maxRecDepth 100000 in
set_option maxHeartbeats 2000000 in
theorem own_yes (t : Nat) (c : Nat → Value) (l : Let) (b : Int) (w : World) (h : TurnAt w t c) (h9 : c 9 = .int .u64 b) (hb : (b == 0) = false) (hl : l.bal = b) :
    Calls Tryz.prog 82 #[.pointer (some ⟨t, 0, none⟩), .agg l.v] w fun e w' => e = .returned (.bool true) ∧ Mod [] w w' := by
  have c9 := h.cell 9 (by decide)
  rw [h9] at c9
  obtain ⟨kd, fr, to', seq, id, ms, bal, old, nid, nms, cut⟩ := l
  simp only at hl
  subst hl
  unfold Let.v
  simp only
  have htl : t ≠ w.heap.size := Nat.ne_of_lt h.lt
  have hq : (bal != 0) = true := by simpa [bne] using hb
  clear h h9 hb
  go_enter Tryz.func82, Tryz.ntmps82
  go_wp2_with fail
  have hm := (Mod.refl [] w).alloc (.cells #[.int .i64 kd, .int .i64 fr, .int .i64 to', .int .u64 seq, .int .i64 0, .slice none 0 0, .int .u64 id, .int .u64 ms, .int .u64 bal, .int .u64 old, .int .u64 nid, .int .u64 nms, .int .u64 cut, .slice none 0 0, .slice none 0 0, .float .f64 0] 42)
  replace c9 := hm.at c9 (by simp)
  have b8 := cell_in (heap_new w (.cells #[.int .i64 kd, .int .i64 fr, .int .i64 to', .int .u64 seq, .int .i64 0, .slice none 0 0, .int .u64 id, .int .u64 ms, .int .u64 bal, .int .u64 old, .int .u64 nid, .int .u64 nms, .int .u64 cut, .slice none 0 0, .slice none 0 0, .float .f64 0] 42)) (show (#[Value.int .i64 kd, .int .i64 fr, .int .i64 to', .int .u64 seq, .int .i64 0, .slice none 0 0, .int .u64 id, .int .u64 ms, .int .u64 bal, .int .u64 old, .int .u64 nid, .int .u64 nms, .int .u64 cut, .slice none 0 0, .slice none 0 0, .float .f64 0] : Array Value)[8]? = some (.int .u64 bal) from rfl)
  have HM := Lib.hid hm
  clear hm
  generalize w.alloc (.cells #[.int .i64 kd, .int .i64 fr, .int .i64 to', .int .u64 seq, .int .i64 0, .slice none 0 0, .int .u64 id, .int .u64 ms, .int .u64 bal, .int .u64 old, .int .u64 nid, .int .u64 nms, .int .u64 cut, .slice none 0 0, .slice none 0 0, .float .f64 0] 42) = W at c9 b8 HM ⊢
  generalize w.heap.size = p at b8 htl ⊢
  go_region
  all_goals
    go_wp2
    go_ret
    exact ⟨by simp [*], HM.out.drew⟩

end Go.Proofs.YtaaaiggbnkeblaaGreatDoor
