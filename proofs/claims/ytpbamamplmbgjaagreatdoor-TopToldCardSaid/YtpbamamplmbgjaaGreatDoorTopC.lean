/-
  The walks of package roll: Mine, Get; of rank.
-/
import Derived.Test.YtpbamamplmbgjaaGreatDoorTopB
import Derived.Laws.ResultCell
import Derived.Laws.Rows
import Derived.Deep.QuietTactic
import Derived.BigQuiet
namespace Go.Proofs.YtpbamamplmbgjaaGreatDoor
set_option linter.unusedSimpArgs false
set_option linter.unusedVariables false
open Go.RowKit

def updV (u : Int × Int × Int) : Value := .agg #[.int .i64 u.1, .int .u64 u.2.1, .int .i64 u.2.2]

theorem Tryz.size_upd : (Tryz.prog.info? 24).map (·.size) = some 3 := by kernel_rfl

theorem results_row_tmp {P : Program} {fn : Func} {p u : Tmp} {ty : TypeId} (h : fn.results = #[.cell p ty, .tmp u]) (tmps : Array Value) (w : World) (g : Nat) (t : TypeId) (cs : Array Value) (fr : Nat × Nat) (d : TypeDesc)
    (hp : tmps.getD p undef = .pointer (some ⟨g, 0, none⟩)) (hg : w.heap[g]? = some (.cells cs t fr))
    (hu : P.underlying ty = some d) (hd : (match d with | .struct _ | .array _ _ => true | _ => false) = true) (hi : (P.info? ty).map (·.size) = some cs.size) :
    (results fn tmps).run P w = .ok (.tuple #[.agg cs, tmps.getD u undef]) w := by
  rw [results_cell_tmp h, hp]
  simp [asAddr, Result.andThen, run_loadVar_row w g t ty cs fr d hg hu hd hi]

set_option maxHeartbeats 1000000 in
theorem mine_any (r me : Nat) (hme : me < 64) (f : Nat → Int × Int × Int) (has : Int) (w : World) (h : RollAt w r me f has) :
    Calls Tryz.prog 43 #[.pointer (some ⟨r, 0, none⟩)] w fun e w' => e = .returned (updV (f me)) ∧ Mod [] w w' := by
  have c := h.me
  have c0 := h.node me hme
  have c1 := h.inc me hme
  have c2 := h.state me hme
  have hrl := h.lt
  have hmb : (0 : Int) ≤ me ∧ (me : Int) < 64 := by omega
  go_enter Tryz.func43, Tryz.ntmps43
  go_wp2_with fail
  go_region
  go_wp2
  refine bodyPost_ret (results_cell_row rfl _ _ w.heap.size 24 _ (0, 0) _ rfl (heap_new _ _) Tryz.underlying24 rfl Tryz.size_upd) rfl ?_
  exact ⟨rfl, ((Mod.refl [] w).alloc _).drew⟩

set_option maxHeartbeats 1000000 in
theorem get_has (r n : Nat) (hn : n < 64) (me has : Int) (f : Nat → Int × Int × Int) (w : World) (h : RollAt w r me f has) (hb : (bits .and .u64 has (2 ^ n) != 0) = true) :
    Calls Tryz.prog 13 #[.pointer (some ⟨r, 0, none⟩), .int .i64 n] w fun e w' => e = .returned (.tuple #[updV (f n), .bool true]) ∧ Mod [] w w' := by
  have c := h.has
  have c0 := h.node n hn
  have c1 := h.inc n hn
  have c2 := h.state n hn
  have hrl := h.lt
  have hmb : (0 : Int) ≤ n ∧ (n : Int) < 64 := by omega
  have HB := Lib.hid hb
  clear hb
  go_enter Tryz.func13, Tryz.ntmps13
  go_wp2_with fail
  refine (has_is has n true hn HB.out _).mono ?_
  rintro e w1 ⟨rfl, rfl⟩
  go_wp2_with fail
  refine bodyPost_ret (results_row_tmp rfl _ _ w.heap.size 24 _ (0, 0) _ rfl (heap_new _ _) Tryz.underlying24 rfl Tryz.size_upd) rfl ?_
  exact ⟨rfl, (Mod.refl [] w).alloc _⟩

set_option maxHeartbeats 1000000 in
theorem get_not (r n : Nat) (hn : n < 64) (me has : Int) (f : Nat → Int × Int × Int) (w : World) (h : RollAt w r me f has) (hb : (bits .and .u64 has (2 ^ n) != 0) = false) :
    Calls Tryz.prog 13 #[.pointer (some ⟨r, 0, none⟩), .int .i64 n] w fun e w' => e = .returned (.tuple #[updV (0, 0, 0), .bool false]) ∧ Mod [] w w' := by
  have c := h.has
  have hrl := h.lt
  have HB := Lib.hid hb
  clear hb
  go_enter Tryz.func13, Tryz.ntmps13
  go_wp2_with fail
  refine (has_is has n false hn HB.out _).mono ?_
  rintro e w1 ⟨rfl, rfl⟩
  go_wp2_with fail
  refine bodyPost_ret (results_row_tmp rfl _ _ w.heap.size 24 _ (0, 0) _ rfl (heap_new _ _) Tryz.underlying24 rfl Tryz.size_upd) rfl ?_
  exact ⟨rfl, (Mod.refl [] w).alloc _⟩

set_option maxHeartbeats 1000000 in
theorem tmay_is (n inc st : Int) (hn : 0 ≤ n ∧ n < 64) (hs : 0 ≤ st ∧ st ≤ 3) (w : World) :
    Calls Tryz.prog 32 #[.agg #[.int .i64 n, .int .u64 inc, .int .i64 st]] w fun e w' => e = .returned (.bool true) ∧ Mod [] w w' := by
  have q1 : decide ((0 : Int) ≤ n) = true := by simpa using hn.1
  have q2 : decide (n < (64 : Int)) = true := by simpa using hn.2
  have q3 : decide ((0 : Int) ≤ st) = true := by simpa using hs.1
  have q4 : decide (st ≤ (3 : Int)) = true := by simpa using hs.2
  go_enter Tryz.func32, Tryz.ntmps32
  go_wp2_with fail
  go_ret
  exact ⟨by simp [*], (Mod.refl [] w).alloc _⟩

theorem rmay_is (n inc st : Int) (hn : 0 ≤ n ∧ n < 64) (hs : 0 ≤ st ∧ st ≤ 3) (w : World) :
    Calls Tryz.prog 7 #[.agg #[.int .i64 n, .int .u64 inc, .int .i64 st]] w fun e w' => e = .returned (.bool true) ∧ Mod [] w w' := by
  go_enter Tryz.func7, Tryz.ntmps7
  go_wp2_with fail
  refine (tmay_is n inc st hn hs _).mono ?_
  rintro e w1 ⟨rfl, hM⟩
  go_wp2_with fail
  go_ret
  exact ⟨rfl, ((Mod.refl [] w).alloc _).trans hM⟩

theorem rlive_is (n inc st : Int) (b : Bool) (hb : (decide (0 ≤ st) && decide (st ≤ 1)) = b) (w : World) :
    Calls Tryz.prog 87 #[.agg #[.int .i64 n, .int .u64 inc, .int .i64 st]] w fun e w' => e = .returned (.bool b) ∧ Mod [] w w' := by
  have HB := Lib.hid hb
  clear hb
  go_enter Tryz.func87, Tryz.ntmps87
  go_wp2_with fail
  all_goals
    go_ret
    exact ⟨by rw [← HB.out]; first | (simp [*]; done) | (simp [*]; omega), (Mod.refl [] w).alloc _⟩

def cmp3 (a b : Int) : Int := if a < b then -1 else if b < a then 1 else 0

theorem nani_is (a : Int) (w : World) : Calls Tryz.prog 158 #[.int .i64 a] w fun e w' => e = .returned (.bool false) ∧ w = w' := by
  have ha : (a != a) = false := by simp
  go_enter Tryz.func158, Tryz.ntmps158
  go_wp2
  go_ret
  exact ⟨rfl, rfl⟩

theorem cmpi_is (a b c : Int) (hc : cmp3 a b = c) (w : World) : Calls Tryz.prog 105 #[.int .i64 a, .int .i64 b] w fun e w' => e = .returned (.int .i64 c) ∧ w = w' := by
  have HC := Lib.hid hc
  clear hc
  go_enter Tryz.func105, Tryz.ntmps105
  go_wp2_with fail
  refine (nani_is a _).mono ?_
  rintro e w1 ⟨rfl, rfl⟩
  go_wp2_with fail
  refine (nani_is b _).mono ?_
  rintro e w1 ⟨rfl, rfl⟩
  go_wp2_with fail
  all_goals
    go_ret
    exact ⟨ret_int (by rw [← HC.out]; unfold cmp3; split <;> (try split) <;> omega), rfl⟩

theorem nanu_is (a : Int) (w : World) : Calls Tryz.prog 217 #[.int .u64 a] w fun e w' => e = .returned (.bool false) ∧ w = w' := by
  have ha : (a != a) = false := by simp
  go_enter Tryz.func217, Tryz.ntmps217
  go_wp2
  go_ret
  exact ⟨rfl, rfl⟩

theorem cmpu_is (a b c : Int) (hc : cmp3 a b = c) (w : World) : Calls Tryz.prog 156 #[.int .u64 a, .int .u64 b] w fun e w' => e = .returned (.int .i64 c) ∧ w = w' := by
  have HC := Lib.hid hc
  clear hc
  go_enter Tryz.func156, Tryz.ntmps156
  go_wp2_with fail
  refine (nanu_is a _).mono ?_
  rintro e w1 ⟨rfl, rfl⟩
  go_wp2_with fail
  refine (nanu_is b _).mono ?_
  rintro e w1 ⟨rfl, rfl⟩
  go_wp2_with fail
  all_goals
    go_ret
    exact ⟨ret_int (by rw [← HC.out]; unfold cmp3; split <;> (try split) <;> omega), rfl⟩

def or2 (a b : Int) : Int := if a = 0 then b else a

set_option maxHeartbeats 1000000 in
theorem or2_is (g : Nat) (a b c : Int) (hc : or2 a b = c) (w : World) (h : w.heap[g]? = some (.cells #[.int .i64 a, .int .i64 b] 3 (0, 0))) :
    Calls Tryz.prog 104 #[.slice (some ⟨g, 0, none⟩) 2 2] w fun e w' => e = .returned (.int .i64 c) ∧ w = w' := by
  have c0 := cell_in h (j := 0) rfl
  have c1 := cell_in h (j := 1) rfl
  clear h
  by_cases ha : a = 0
  · have hq : (a != 0) = false := by simpa using ha
    have hc2 : b = c := by rw [← hc, or2, if_pos ha]
    subst hc2
    clear ha hc
    by_cases hb : b = 0
    · subst hb
      go_enter Tryz.func104, Tryz.ntmps104
      go_wp2_with fail
      refine wp_loop_rounds 3 ?_
      rw [rounds_succ]
      go_wp2
      rw [rounds_succ]
      go_wp2
      rw [rounds_succ]
      go_wp2
      go_ret
      exact ⟨rfl, rfl⟩
    · have hq2 : (b != 0) = true := by simpa using hb
      clear hb
      go_enter Tryz.func104, Tryz.ntmps104
      go_wp2_with fail
      refine wp_loop_rounds 2 ?_
      rw [rounds_succ]
      go_wp2
      rw [rounds_succ]
      go_wp2
      go_ret
      exact ⟨rfl, rfl⟩
  · have hq : (a != 0) = true := by simpa using ha
    have hc2 : a = c := by rw [← hc, or2, if_neg ha]
    subst hc2
    clear ha hc
    go_enter Tryz.func104, Tryz.ntmps104
    go_wp2_with fail
    refine wp_loop_rounds 1 ?_
    rw [rounds_succ]
    go_wp2
    go_ret
    exact ⟨rfl, rfl⟩

def against (u v : Int × Int × Int) : Int := or2 (cmp3 u.2.1 v.2.1) (cmp3 u.2.2 v.2.2)

set_option maxRecDepth 100000 in
set_option maxHeartbeats 4000000 in
theorem against_is (n inc st n' inc' st' c : Int) (hc : or2 (cmp3 inc inc') (cmp3 st st') = c) (w : World) :
    Calls Tryz.prog 101 #[.agg #[.int .i64 n, .int .u64 inc, .int .i64 st], .agg #[.int .i64 n', .int .u64 inc', .int .i64 st']] w fun e w' => e = .returned (.int .i64 c) ∧ Mod [] w w' := by
  obtain ⟨x, hx⟩ : ∃ x, cmp3 inc inc' = x := ⟨_, rfl⟩
  obtain ⟨y, hy⟩ : ∃ y, cmp3 st st' = y := ⟨_, rfl⟩
  rw [hx, hy] at hc
  have HX := Lib.hid hx
  have HY := Lib.hid hy
  have HC := Lib.hid hc
  clear hx hy hc
  go_enter Tryz.func101, Tryz.ntmps101
  go_wp2_with fail
  obtain ⟨W, hW⟩ : ∃ W, (w.alloc (.cells #[.int .i64 n, .int .u64 inc, .int .i64 st] 103)).alloc (.cells #[.int .i64 n', .int .u64 inc', .int .i64 st'] 103) = W := ⟨_, rfl⟩
  have c1 : W.cell? ⟨w.heap.size, 1, none⟩ = some (.int .u64 inc) := by rw [← hW]; exact cell_in (heap_two _ _ _) rfl
  have c2 : W.cell? ⟨w.heap.size, 2, none⟩ = some (.int .i64 st) := by rw [← hW]; exact cell_in (heap_two _ _ _) rfl
  have c3 : W.cell? ⟨w.heap.size + 1, 1, none⟩ = some (.int .u64 inc') := by rw [← hW]; exact cell_in (heap_top _ _ _) rfl
  have c4 : W.cell? ⟨w.heap.size + 1, 2, none⟩ = some (.int .i64 st') := by rw [← hW]; exact cell_in (heap_top _ _ _) rfl
  have hsz : W.heap.size = w.heap.size + 2 := by rw [← hW]; simp
  have HM := Lib.hid (show Mod [] w W by rw [← hW]; exact ((Mod.refl [] w).alloc _).alloc _)
  rw [hW]
  clear hW
  have HNW := Lib.hid (show ((W.alloc (.cells #[.int .i64 x, .int .i64 y] 3)).drew).heap[w.heap.size + 2]? = some (.cells #[.int .i64 x, .int .i64 y] 3 (0, 0)) by rw [← hsz]; exact heap_new W _)
  go_region_held3 (fun w' => w'.cell? ⟨w.heap.size, 1, none⟩ = some (.int .u64 inc) ∧ w'.cell? ⟨w.heap.size, 2, none⟩ = some (.int .i64 st) ∧ w'.cell? ⟨w.heap.size + 1, 1, none⟩ = some (.int .u64 inc') ∧ w'.cell? ⟨w.heap.size + 1, 2, none⟩ = some (.int .i64 st')) (first | go_keep) (first | (go_at_call 156; refine (cmpu_is inc inc' x HX.out _).mono ?_; rintro e w5 ⟨rfl, rfl⟩) | (go_at_call 105; refine (cmpi_is st st' y HY.out _).mono ?_; rintro e w5 ⟨rfl, rfl⟩) | (go_at_call 104; refine (or2_is (w.heap.size + 2) x y c HC.out _ HNW.out).mono ?_; rintro e w5 ⟨rfl, rfl⟩))
  go_wp2
  go_ret
  exact ⟨rfl, (HM.out.alloc _).drew⟩

theorem rnewer_is (n inc st n' inc' st' : Int) (b : Bool) (hb : decide (0 < or2 (cmp3 inc inc') (cmp3 st st')) = b) (w : World) :
    Calls Tryz.prog 45 #[.agg #[.int .i64 n, .int .u64 inc, .int .i64 st], .agg #[.int .i64 n', .int .u64 inc', .int .i64 st']] w fun e w' => e = .returned (.bool b) ∧ Mod [] w w' := by
  obtain ⟨c, hc⟩ : ∃ c, or2 (cmp3 inc inc') (cmp3 st st') = c := ⟨_, rfl⟩
  rw [hc] at hb
  have HB := Lib.hid hb
  have HC := Lib.hid hc
  clear hb hc
  go_enter Tryz.func45, Tryz.ntmps45
  go_wp2_with fail
  refine (against_is n inc st n' inc' st' c HC.out _).mono ?_
  rintro e w1 ⟨rfl, hM⟩
  go_wp2_with fail
  go_ret
  exact ⟨by rw [← HB.out]; rfl, (((Mod.refl [] w).alloc _).alloc _).trans hM⟩

set_option maxHeartbeats 4000000 in
theorem refute_old (me inc : Int) (inc' st' : Int) (hme : 0 ≤ me ∧ me < 64) (hst : 0 ≤ st' ∧ st' ≤ 3) (hold : decide (0 < or2 (cmp3 inc' inc) (cmp3 st' 0)) = false) (w : World) :
    Calls Tryz.prog 42 #[.int .i64 me, .int .u64 inc, .agg #[.int .i64 me, .int .u64 inc', .int .i64 st']] w fun e w' => e = .returned (.tuple #[.int .u64 inc, .bool false, .int .i64 0]) ∧ Mod [] w w' := by
  have HO := Lib.hid hold
  have hmm : (me != me) = false := by simp
  clear hold
  go_enter Tryz.func42, Tryz.ntmps42
  go_wp2_with fail
  refine (rmay_is me inc' st' hme hst _).mono ?_
  rintro e w1 ⟨rfl, hM⟩
  have c0 : w1.cell? ⟨w.heap.size, 0, none⟩ = some (.int .i64 me) := (hM.cell (by simp) (by simp)).trans (cell_in (heap_new _ _) rfl)
  have c1 : w1.cell? ⟨w.heap.size, 1, none⟩ = some (.int .u64 inc') := (hM.cell (by simp) (by simp)).trans (cell_in (heap_new _ _) rfl)
  have c2 : w1.cell? ⟨w.heap.size, 2, none⟩ = some (.int .i64 st') := (hM.cell (by simp) (by simp)).trans (cell_in (heap_new _ _) rfl)
  have HM := Lib.hid (((Mod.refl [] w).alloc _).trans hM)
  clear hM
  go_wp2_with fail
  refine (rnewer_is me inc' st' me inc 0 false HO.out _).mono ?_
  rintro e w2 ⟨rfl, hM⟩
  go_wp2_with fail
  refine bodyPost_ret (results_tmp3 rfl _ _ _) rfl ?_
  exact ⟨rfl, HM.out.trans hM⟩

end Go.Proofs.YtpbamamplmbgjaaGreatDoor
