/-
  The walks of package shelf.
  The walks of package shelf: Put, Get, Low.
  The walks of package shelf: Reach, Trim by one.
-/
import Derived.Test.YtaaaiggbnkeblaaGreatDoorMDesk
import Derived.Test.YtaaaiggbnkeblaaGreatDoorMTopF
namespace Go.Proofs.YtaaaiggbnkeblaaGreatDoor
set_option linter.unusedSimpArgs false
set_option linter.unusedVariables false
open Go.RowKit

/-- A place of a shelf: its number, its message. -/
abbrev P := Int × M
def pcells (p : P) : List Value := .int .u64 p.1 :: mcells p.2
def p0 : P := (0, m0)

/-- A Shelf at block s. -/
structure ShelfRaw (w : World) (s : Nat) (low : Int) (r : Nat → P) : Prop where
  c256 : w.cell? ⟨s, 256, none⟩ = some (.int .u64 low)
  ring : ∀ j, j < 64 → w.rangeAt s (j * 4) (pcells (r j))
  free : w.there s 0 257
  l0 : 0 ≤ low
  l1 : low ≤ 18446744073709551615

theorem ShelfRaw.lt {w : World} {s : Nat} {low : Int} {r : Nat → P} (h : ShelfRaw w s low r) : s < w.heap.size := cell_ltd h.c256
theorem ShelfRaw.mod {S : List Nat} {w w' : World} {s : Nat} {low : Int} {r : Nat → P} (h : ShelfRaw w s low r) (hm : Mod S w w') (hs : s ∉ S) : ShelfRaw w' s low r :=
  ⟨(hm.cell h.lt hs).trans h.c256, fun j hj => rangeAt_mod (h.ring j hj) h.lt hm hs, there_mod h.free h.lt hm hs, h.l0, h.l1⟩
def putP (r : Nat → P) (k : Nat) (p : P) : Nat → P := fun j => if j = k then p else r j

theorem ShelfRaw.setLow {w : World} {s : Nat} {low : Int} {r : Nat → P} (h : ShelfRaw w s low r) (v : Int) (h0 : 0 ≤ v) (h1 : v ≤ 18446744073709551615) : ShelfRaw (w.setCell ⟨s, 256, none⟩ (.int .u64 v)) s v r := by
  refine ⟨cell_set_same h.c256, fun j hj i u hu => ?_, fun j hj => ⟨isSome_set (h.free j hj).1, ?_⟩, h0, h1⟩
  · have hi : i < 4 := (List.getElem?_eq_some_iff.1 hu).1
    rw [cell_set_off _ _ _ _ (by simp; omega)]; exact h.ring j hj i u hu
  · rw [frozen_set]; exact (h.free j hj).2

theorem ShelfRaw.setP {w : World} {s : Nat} {low : Int} {r : Nat → P} (h : ShelfRaw w s low r) (k : Nat) (hk : k < 64) (p : P) :
    ShelfRaw ((((w.setCell ⟨s, k * 4, none⟩ (.int .u64 p.1)).setCell ⟨s, k * 4 + 1, none⟩ (.int .i64 p.2.1)).setCell ⟨s, k * 4 + 2, none⟩ (.int .u64 p.2.2.1)).setCell ⟨s, k * 4 + 3, none⟩ (.string p.2.2.2)) s low (putP r k p) := by
  have off : ∀ o : Nat, (o < k * 4 ∨ k * 4 + 3 < o) → ((((w.setCell ⟨s, k * 4, none⟩ (.int .u64 p.1)).setCell ⟨s, k * 4 + 1, none⟩ (.int .i64 p.2.1)).setCell ⟨s, k * 4 + 2, none⟩ (.int .u64 p.2.2.1)).setCell ⟨s, k * 4 + 3, none⟩ (.string p.2.2.2)).cell? ⟨s, o, none⟩ = w.cell? ⟨s, o, none⟩ := fun o ho => by
    rw [cell_set_off _ _ _ _ (by simp; omega), cell_set_off _ _ _ _ (by simp; omega), cell_set_off _ _ _ _ (by simp; omega), cell_set_off _ _ _ _ (by simp; omega)]
  refine ⟨?_, fun j hj i u hu => ?_, fun j hj => ⟨isSome_set (isSome_set (isSome_set (isSome_set (h.free j hj).1))), ?_⟩, h.l0, h.l1⟩
  · rw [off 256 (by omega)]; exact h.c256
  · have hi : i < 4 := (List.getElem?_eq_some_iff.1 hu).1
    unfold putP at hu
    by_cases e : j = k
    · subst e
      rw [if_pos rfl] at hu
      have e2 : i = 0 ∨ i = 1 ∨ i = 2 ∨ i = 3 := by omega
      rcases e2 with rfl | rfl | rfl | rfl
      · rw [cell_set_off _ _ _ _ (by simp), cell_set_off _ _ _ _ (by simp), cell_set_off _ _ _ _ (by simp)]
        exact (cell_set_same (h.ring j hj 0 _ rfl)).trans hu
      · rw [cell_set_off _ _ _ _ (by simp), cell_set_off _ _ _ _ (by simp)]
        refine (cell_set_same (u := .int .i64 (r j).2.1) ?_).trans hu
        rw [cell_set_off _ _ _ _ (by simp)]
        exact h.ring j hj 1 _ rfl
      · rw [cell_set_off _ _ _ _ (by simp)]
        refine (cell_set_same (u := .int .u64 (r j).2.2.1) ?_).trans hu
        rw [cell_set_off _ _ _ _ (by simp), cell_set_off _ _ _ _ (by simp)]
        exact h.ring j hj 2 _ rfl
      · refine (cell_set_same (u := .string (r j).2.2.2) ?_).trans hu
        rw [cell_set_off _ _ _ _ (by simp), cell_set_off _ _ _ _ (by simp), cell_set_off _ _ _ _ (by simp)]
        exact h.ring j hj 3 _ rfl
    · rw [if_neg e] at hu
      rw [off _ (by omega)]
      exact h.ring j hj i u hu
  · rw [frozen_set, frozen_set, frozen_set, frozen_set]; exact (h.free j hj).2

set_option maxHeartbeats 1000000 in
theorem sat_any (s : Nat) (low : Int) (r : Nat → P) (n : Int) (w : World) (h : ShelfRaw w s low r) (n0 : 0 ≤ n) (n1 : n ≤ 18446744073709551615) (k : Nat) (hk : n.toNat % 64 = k) :
    Calls Tryz.prog 279 #[.pointer (some ⟨s, 0, none⟩), .int .u64 n] w fun e w' => e = .returned (.pointer (some ⟨s, k * 4, none⟩)) ∧ w' = w := by
  have hm : n.tmod 64 = (k : Int) := by
    rw [Int.tmod_eq_emod_of_nonneg (by omega)]
    omega
  have hk8 : k < 64 := by omega
  have hkb : (k : Int) % 18446744073709551616 = k := by omega
  clear hk h
  go_enter Tryz.func279, Tryz.ntmps279
  go_wp2_with fail
  go_ret
  exact ⟨rfl, rfl⟩

/-- Is a number within the window? -/
def within (low n : Int) : Bool := decide (low < n) && decide (n - low ≤ 64)

set_option maxHeartbeats 1000000 in
theorem swithin_any (s : Nat) (low : Int) (r : Nat → P) (n : Int) (w : World) (h : ShelfRaw w s low r) (n0 : 0 ≤ n) (n1 : n ≤ 18446744073709551615) :
    Calls Tryz.prog 282 #[.pointer (some ⟨s, 0, none⟩), .int .u64 n] w fun e w' => e = .returned (.bool (within low n)) ∧ w' = w := by
  have hc := h.c256
  have l0 := h.l0
  have l1 := h.l1
  clear h
  by_cases hlt : low < n
  · have hd : decide (low < n) = true := by simpa using hlt
    have hs : (n - low) % 18446744073709551616 = n - low := by omega
    have hv : within low n = decide (n - low ≤ 64) := by unfold within; rw [hd]; rfl
    rw [hv]
    clear hv hlt
    go_enter Tryz.func282, Tryz.ntmps282
    go_wp2_with fail
    go_ret
    exact ⟨rfl, rfl⟩
  · have hd : decide (low < n) = false := by simpa using hlt
    have hv : within low n = false := by unfold within; rw [hd]; rfl
    rw [hv]
    clear hv hlt
    go_enter Tryz.func282, Tryz.ntmps282
    go_wp2_with fail
    go_ret
    exact ⟨rfl, rfl⟩

/-- Does a shelf have a number? -/
def hasP (low : Int) (r : Nat → P) (n : Int) : Bool := within low n && ((r (n.toNat % 64)).1 == n)

set_option maxHeartbeats 1000000 in
theorem shas_any (s : Nat) (low : Int) (r : Nat → P) (n : Int) (w : World) (h : ShelfRaw w s low r) (n0 : 0 ≤ n) (n1 : n ≤ 18446744073709551615) :
    Calls Tryz.prog 237 #[.pointer (some ⟨s, 0, none⟩), .int .u64 n] w fun e w' => e = .returned (.bool (hasP low r n)) ∧ w' = w := by
  obtain ⟨k, hk⟩ : ∃ k, n.toNat % 64 = k := ⟨_, rfl⟩
  have hc : w.cell? ⟨s, k * 4, none⟩ = some (.int .u64 (r k).1) := h.ring k (by omega) 0 _ rfl
  have H := Lib.hid h
  have HK := Lib.hid hk
  cases hb : within low n
  · have hv : hasP low r n = false := by unfold hasP; rw [hb]; rfl
    rw [hv]
    have HB := Lib.hid hb
    clear h hk hv hb
    go_enter Tryz.func237, Tryz.ntmps237
    go_wp2_with (go_at_call 282; refine (swithin_any s low r n _ H.out n0 n1).mono ?_; rintro e w1 ⟨rfl, rfl⟩; rw [HB.out])
    go_ret
    exact ⟨rfl, rfl⟩
  · have hv : hasP low r n = ((r k).1 == n) := by unfold hasP; rw [hb, hk]; rfl
    rw [hv]
    have HB := Lib.hid hb
    clear h hk hv hb
    go_enter Tryz.func237, Tryz.ntmps237
    go_wp2_with (first | (go_at_call 282; refine (swithin_any s low r n _ H.out n0 n1).mono ?_; rintro e w1 ⟨rfl, rfl⟩; rw [HB.out]) | (go_at_call 279; refine (sat_any s low r n _ H.out n0 n1 k HK.out).mono ?_; rintro e w1 ⟨rfl, rfl⟩))
    go_ret
    exact ⟨rfl, rfl⟩

end Go.Proofs.YtaaaiggbnkeblaaGreatDoor

namespace Go.Proofs.YtaaaiggbnkeblaaGreatDoor
set_option linter.unusedSimpArgs false
set_option linter.unusedVariables false
open Go.RowKit

set_option maxRecDepth 100000 in
set_option maxHeartbeats 4000000 in
theorem sput_ok (s : Nat) (low : Int) (r : Nat → P) (n a b : Int) (t : ByteArray) (w : World) (h : ShelfRaw w s low r) (n0 : 0 < n) (n1 : n < 18446744073709551615) (ht : t.size ≤ 64) (hh : hasP low r n = false) (hw : within low n = true) :
    Calls Tryz.prog 271 #[.pointer (some ⟨s, 0, none⟩), .int .u64 n, .agg #[.int .i64 a, .int .u64 b, .string t]] w fun e w' => e = .returned (.int .i64 0) ∧ ShelfRaw w' s low (putP r (n.toNat % 64) (n, (a, b, t))) ∧ Mod [s] w w' := by
  obtain ⟨k, hk⟩ : ∃ k, n.toNat % 64 = k := ⟨_, rfl⟩
  rw [hk]
  have hk8 : k < 64 := by omega
  have hln : low < n := by
    have : within low n = true := hw
    unfold within at this
    simp at this
    exact this.1
  have hlo := h.l0
  have hd1 : (n == 0) = false := by simp; omega
  have hd2 : (n == 18446744073709551615) = false := by simp; omega
  have hd3 : decide (n ≤ low) = false := by simp; omega
  have H := Lib.hid h
  have HK := Lib.hid hk
  have HH := Lib.hid hh
  have HW := Lib.hid hw
  have HN := Lib.hid (And.intro n0 n1)
  obtain ⟨z, hz⟩ : ∃ z, t.size = z := ⟨_, rfl⟩
  have hzd : decide ((64:Int) < (z:Int)) = false := by simp; omega
  have hsl := h.lt
  clear h hk hh hw n0 n1 ht hln hlo
  go_enter Tryz.func271, Tryz.ntmps271
  go_upto_region 1 with fail
  have HMw := Lib.hid ((Mod.refl [] w).alloc (.cells #[.int .i64 a, .int .u64 b, .string t] 156))
  have HU := Lib.hid (heap_new w (.cells #[.int .i64 a, .int .u64 b, .string t] 156))
  have hne : ¬ w.heap.size = s := by omega
  generalize hB : w.heap.size = B at HU hne ⊢
  generalize w.alloc (.cells #[.int .i64 a, .int .u64 b, .string t] 156) = W0 at HMw HU ⊢
  replace H := Lib.hid (H.out.mod HMw.out (by simp))
  have u0 : W0.cell? ⟨B, 0, none⟩ = some (.int .i64 a) := cell_in HU.out rfl
  have u1 : W0.cell? ⟨B, 1, none⟩ = some (.int .u64 b) := cell_in HU.out rfl
  have u2 : W0.cell? ⟨B, 2, none⟩ = some (.string t) := cell_in HU.out rfl
  have c256 := H.out.c256
  have s0 : W0.cell? ⟨s, k * 4, none⟩ = some (.int .u64 (r k).1) := H.out.ring k hk8 0 _ rfl
  have s1 : W0.cell? ⟨s, k * 4 + 1, none⟩ = some (.int .i64 (r k).2.1) := H.out.ring k hk8 1 _ rfl
  have s2 : W0.cell? ⟨s, k * 4 + 2, none⟩ = some (.int .u64 (r k).2.2.1) := H.out.ring k hk8 2 _ rfl
  have s3 : W0.cell? ⟨s, k * 4 + 3, none⟩ = some (.string (r k).2.2.2) := H.out.ring k hk8 3 _ rfl
  have q0 := (H.out.free (k * 4) (by omega)).2
  have q1 := (H.out.free (k * 4 + 1) (by omega)).2
  have q2 := (H.out.free (k * 4 + 2) (by omega)).2
  have q3 := (H.out.free (k * 4 + 3) (by omega)).2
  rw [Nat.zero_add] at q0 q1 q2 q3
  have hfin := H.out.mod (Mod.refl [] _).drew (by simp)
  have FIN := Lib.hid (hfin.setP k hk8 (n, (a, b, t)))
  clear hfin
  go_wp2_with (first | (go_at_call 237; refine (shas_any s low r n _ H.out (Int.le_of_lt HN.out.1) (Int.le_of_lt HN.out.2)).mono ?_; rintro e w1 ⟨rfl, rfl⟩; rw [HH.out]) | (go_at_call 282; refine (swithin_any s low r n _ H.out (Int.le_of_lt HN.out.1) (Int.le_of_lt HN.out.2)).mono ?_; rintro e w1 ⟨rfl, rfl⟩; rw [HW.out]))
  go_region_with (go_at_call 279; refine (sat_any s low r n _ (H.out.mod (Mod.refl [] _).drew (by simp)) (Int.le_of_lt HN.out.1) (Int.le_of_lt HN.out.2) k HK.out).mono ?_; rintro e w1 ⟨rfl, rfl⟩)
  all_goals
    go_wp2_with fail
    go_ret
    exact ⟨rfl, FIN.out, (HMw.out.mono (by simp)).drew.setCell (.inl (by simp)) _ |>.setCell (.inl (by simp)) _ |>.setCell (.inl (by simp)) _ |>.setCell (.inl (by simp)) _⟩

theorem Tryz.size_msg : (Tryz.prog.info? 156).map (·.size) = some 3 := by kernel_rfl

set_option maxRecDepth 100000 in
set_option maxHeartbeats 4000000 in
theorem sget_has (s : Nat) (low : Int) (r : Nat → P) (n a b : Int) (t : ByteArray) (w : World) (h : ShelfRaw w s low r) (n0 : 0 < n) (n1 : n ≤ 18446744073709551615) (hh : hasP low r n = true) (hr : (r (n.toNat % 64)).2 = (a, b, t)) :
    Calls Tryz.prog 276 #[.pointer (some ⟨s, 0, none⟩), .int .u64 n] w fun e w' => e = .returned (.tuple #[.agg #[.int .i64 a, .int .u64 b, .string t], .int .i64 0]) ∧ Mod [] w w' := by
  obtain ⟨k, hk⟩ : ∃ k, n.toNat % 64 = k := ⟨_, rfl⟩
  rw [hk] at hr
  have hk8 : k < 64 := by omega
  have hln : low < n := by
    unfold hasP within at hh
    simp at hh
    exact hh.1.1
  have hlo := h.l0
  have hd1 : (n == 0) = false := by simp; omega
  have hd3 : decide (n ≤ low) = false := by simp; omega
  have hd4 : decide (0 < n) = true := by simp; omega
  have H := Lib.hid h
  have HK := Lib.hid hk
  have HH := Lib.hid hh
  have HN := Lib.hid (And.intro n0 n1)
  have hsl := h.lt
  have hne : ¬ s = w.heap.size := by omega
  have c256 := h.c256
  have s1 : w.cell? ⟨s, k * 4 + 1, none⟩ = some (.int .i64 (r k).2.1) := h.ring k hk8 1 _ rfl
  have s2 : w.cell? ⟨s, k * 4 + 2, none⟩ = some (.int .u64 (r k).2.2.1) := h.ring k hk8 2 _ rfl
  have s3 : w.cell? ⟨s, k * 4 + 3, none⟩ = some (.string (r k).2.2.2) := h.ring k hk8 3 _ rfl
  rw [hr] at s1 s2 s3
  clear h hk hh n0 n1 hln hlo hr
  go_enter Tryz.func276, Tryz.ntmps276
  go_wp2_with (first | (go_at_call 237; refine (shas_any s low r n _ (H.out.mod ((Mod.refl [] _).alloc _) (by simp)) (Int.le_of_lt HN.out.1) HN.out.2).mono ?_; rintro e w1 ⟨rfl, rfl⟩; rw [HH.out]) | (go_at_call 279; refine (sat_any s low r n _ (H.out.mod ((Mod.refl [] _).alloc _) (by simp)) (Int.le_of_lt HN.out.1) HN.out.2 k HK.out).mono ?_; rintro e w1 ⟨rfl, rfl⟩))
  refine bodyPost_ret (results_row_tmp rfl _ _ w.heap.size 156 _ (0, 0) _ rfl (heap_new _ _) Tryz.underlying156 rfl Tryz.size_msg) rfl ?_
  exact ⟨rfl, (Mod.refl _ _).alloc _⟩

theorem slow_any (s : Nat) (low : Int) (r : Nat → P) (w : World) (h : ShelfRaw w s low r) :
    Calls Tryz.prog 226 #[.pointer (some ⟨s, 0, none⟩)] w fun e w' => e = .returned (.int .u64 low) ∧ w' = w := by
  have c256 := h.c256
  clear h
  go_enter Tryz.func226, Tryz.ntmps226
  go_wp2
  go_ret
  exact ⟨rfl, rfl⟩

end Go.Proofs.YtaaaiggbnkeblaaGreatDoor

namespace Go.Proofs.YtaaaiggbnkeblaaGreatDoor
set_option linter.unusedSimpArgs false
set_option linter.unusedVariables false
open Go.RowKit

set_option maxHeartbeats 2000000 in
theorem sreach_any (s : Nat) (low : Int) (r : Nat → P) (N : Int) (w : World) (h : ShelfRaw w s low r) (hN : low ≤ N) (hM : N < 18446744073709551615) (hall : ∀ m, low < m → m ≤ N → hasP low r m = true) (hend : hasP low r (N + 1) = false) :
    Calls Tryz.prog 190 #[.pointer (some ⟨s, 0, none⟩)] w fun e w' => e = .returned (.int .u64 N) ∧ w' = w := by
  have H := Lib.hid h
  have HA := Lib.hid hall
  have HE := Lib.hid hend
  have c256 := h.c256
  have hl0 := h.l0
  clear h hall hend
  go_enter Tryz.func190, Tryz.ntmps190
  go_wp2_with fail
  go_loopw [3] (fun u wr => ∃ j : Int, u = .int .u64 j ∧ low ≤ j ∧ j ≤ N ∧ wr = w) (fun u _ => (N - intOf u).toNat)
  case atStart => exact ⟨low, rfl, Int.le_refl _, hN, rfl⟩
  case round =>
    obtain ⟨j, rfl, hj0, hj1, rfl⟩ := hrel
    have hm : (j + 1) % 18446744073709551616 = j + 1 := by omega
    have hb0 : 0 ≤ j + 1 := by omega
    have hb1 : j + 1 ≤ 18446744073709551615 := by omega
    by_cases hlt : j < N
    · have hv := HA.out (j + 1) (by omega) (by omega)
      have HV := Lib.hid hv
      clear hv
      go_wp2_with (go_at_call 237; refine (shas_any s low r (j + 1) _ H.out hb0 hb1).mono ?_; rintro e w1 ⟨rfl, rfl⟩; rw [HV.out])
      go_roundw
      case rel => exact ⟨j + 1, by go_num, by omega, by omega, by trivial⟩
      case measure => simp [intOf]; omega
    · obtain rfl : j = N := by omega
      go_wp2_with (go_at_call 237; refine (shas_any s low r (j + 1) _ H.out hb0 hb1).mono ?_; rintro e w1 ⟨rfl, rfl⟩; rw [HE.out])
      go_ret
      exact ⟨rfl, rfl⟩

def lowOf (w : World) (s : Nat) : Int := match w.cell? ⟨s, 256, none⟩ with | some v => intOf v | none => 0

theorem lowOf_at {w : World} {s : Nat} {low : Int} {r : Nat → P} (h : ShelfRaw w s low r) : lowOf w s = low := by
  unfold lowOf
  rw [h.c256]
  rfl

/-- The shelf behind a step of Trim. -/
def TrimRel (w : World) (s : Nat) (low : Int) (r : Nat → P) (k : Nat) (wr : World) : Prop :=
  (ShelfRaw wr s low r ∧ w = wr) ∨ (ShelfRaw wr s (low + 1) (putP r k p0) ∧ Mod [s] w wr)

set_option maxRecDepth 100000 in
set_option maxHeartbeats 4000000 in
theorem strim_one (s : Nat) (low : Int) (r : Nat → P) (N : Int) (w : World) (h : ShelfRaw w s low r) (hN : low < N) (hM : N < 18446744073709551615) (hall : ∀ m, low < m → m ≤ N → hasP low r m = true) (hend : hasP low r (N + 1) = false) :
    Calls Tryz.prog 227 #[.pointer (some ⟨s, 0, none⟩), .int .u64 (low + 1)] w fun e w' => e = .returned (.int .i64 0) ∧ ShelfRaw w' s (low + 1) (putP r ((low + 1).toNat % 64) p0) ∧ Mod [s] w w' := by
  obtain ⟨k, hk⟩ : ∃ k, (low + 1).toNat % 64 = k := ⟨_, rfl⟩
  rw [hk]
  have hk8 : k < 64 := by omega
  have hl0 := h.l0
  have hd : decide (N < low + 1) = false := by simp; omega
  have hm : (low + 1) % 18446744073709551616 = low + 1 := by omega
  have hb0 : 0 ≤ low + 1 := by omega
  have hb1 : low + 1 ≤ 18446744073709551615 := by omega
  have H := Lib.hid h
  have HK := Lib.hid hk
  have HR := Lib.hid (sreach_any s low r N w h (by omega) hM hall hend)
  clear h hk hall hend
  go_enter Tryz.func227, Tryz.ntmps227
  go_wp2_with (go_at_call 190; refine HR.out.mono ?_; rintro e w1 ⟨rfl, rfl⟩)
  go_loopw [] (fun wr => TrimRel w1 s low r k wr) (fun wr => (low + 1 - lowOf wr s).toNat)
  case atStart => exact .inl ⟨H.out, rfl⟩
  case round =>
    rename_i wr

    rcases hrel with ⟨hs, rfl⟩ | ⟨hs, hmod⟩
    · have c256 := hs.c256
      have q256 := (hs.free 256 (by omega)).2
      rw [Nat.zero_add] at q256
      have hd2 : decide (low < low + 1) = true := by simp; omega
      have hs2 := hs.setLow (low + 1) hb0 hb1
      have HM2 := Lib.hid ((Mod.refl [s] w1).setCell (p := ⟨s, 256, none⟩) (.inl (by simp)) (.int .u64 (low + 1)))
      have HS0 := Lib.hid hs
      clear hs
      go_upto_region 5 with fail
      clear q256
      generalize w1.setCell ⟨s, 256, none⟩ (.int .u64 (low + 1)) = W2 at hs2 HM2 ⊢
      have HS2 := Lib.hid hs2
      clear c256
      have c256 := hs2.c256
      have s0 : W2.cell? ⟨s, k * 4, none⟩ = some (.int .u64 (r k).1) := hs2.ring k hk8 0 _ rfl
      have s1 : W2.cell? ⟨s, k * 4 + 1, none⟩ = some (.int .i64 (r k).2.1) := hs2.ring k hk8 1 _ rfl
      have s2 : W2.cell? ⟨s, k * 4 + 2, none⟩ = some (.int .u64 (r k).2.2.1) := hs2.ring k hk8 2 _ rfl
      have s3 : W2.cell? ⟨s, k * 4 + 3, none⟩ = some (.string (r k).2.2.2) := hs2.ring k hk8 3 _ rfl
      have q0 := (hs2.free (k * 4) (by omega)).2
      have q1 := (hs2.free (k * 4 + 1) (by omega)).2
      have q2 := (hs2.free (k * 4 + 2) (by omega)).2
      have q3 := (hs2.free (k * 4 + 3) (by omega)).2
      rw [Nat.zero_add] at q0 q1 q2 q3
      have FIN := Lib.hid (hs2.setP k hk8 p0)
      clear hs2
      go_wp2_with (go_at_call 279; refine (sat_any s (low + 1) r (low + 1) _ HS2.out hb0 hb1 k HK.out).mono ?_; rintro e w1 ⟨rfl, rfl⟩)
      go_roundw
      case rel => exact .inr ⟨FIN.out, (((HM2.out.setCell (.inl (by simp)) _).setCell (.inl (by simp)) _).setCell (.inl (by simp)) _).setCell (.inl (by simp)) _⟩
      case measure =>
        have e1 := lowOf_at FIN.out
        have e2 := lowOf_at HS0.out
        simp only [p0, m0] at e1
        rw [e2]
        exact Nat.lt_of_le_of_lt (Nat.le_of_eq (congrArg (fun x => (low + 1 - x).toNat) e1)) (by show (low + 1 - (low + 1)).toNat < (low + 1 - low).toNat; omega)
    · have c256 := hs.c256
      have HS := Lib.hid hs
      have HMM := Lib.hid hmod
      have hd2 : decide (low + 1 < low + 1) = false := by simp
      clear hs hmod
      go_wp2_with fail
      go_ret
      exact ⟨rfl, HS.out, HMM.out⟩

end Go.Proofs.YtaaaiggbnkeblaaGreatDoor
