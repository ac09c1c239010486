/-
  The walks of package shelf.
-/
import Derived.Test.YtpbamamplmbgjaaGreatDoorDesk
namespace Go.Proofs.YtpbamamplmbgjaaGreatDoor
set_option linter.unusedSimpArgs false
set_option linter.unusedVariables false
open Go.RowKit

/-- A place of a shelf: its number, its message. -/
abbrev P := Int × M
def pcells (p : P) : List Value := .int .u64 p.1 :: mcells p.2
def p0 : P := (0, m0)

/-- A Shelf at block s. -/
structure ShelfRaw (w : World) (s : Nat) (low : Int) (r : Nat → P) : Prop where
  c256 : w.cell? ⟨s, 256, none⟩ = some (.int .u64 low)
  ring : ∀ j, j < 64 → w.rangeAt s (j * 4) (pcells (r j))
  free : w.there s 0 257
  l0 : 0 ≤ low
  l1 : low ≤ 18446744073709551615

theorem ShelfRaw.lt {w : World} {s : Nat} {low : Int} {r : Nat → P} (h : ShelfRaw w s low r) : s < w.heap.size := cell_ltd h.c256
theorem ShelfRaw.mod {S : List Nat} {w w' : World} {s : Nat} {low : Int} {r : Nat → P} (h : ShelfRaw w s low r) (hm : Mod S w w') (hs : s ∉ S) : ShelfRaw w' s low r :=
  ⟨(hm.cell h.lt hs).trans h.c256, fun j hj => rangeAt_mod (h.ring j hj) h.lt hm hs, there_mod h.free h.lt hm hs, h.l0, h.l1⟩
def putP (r : Nat → P) (k : Nat) (p : P) : Nat → P := fun j => if j = k then p else r j

theorem ShelfRaw.setLow {w : World} {s : Nat} {low : Int} {r : Nat → P} (h : ShelfRaw w s low r) (v : Int) (h0 : 0 ≤ v) (h1 : v ≤ 18446744073709551615) : ShelfRaw (w.setCell ⟨s, 256, none⟩ (.int .u64 v)) s v r := by
  refine ⟨cell_set_same h.c256, fun j hj i u hu => ?_, fun j hj => ⟨isSome_set (h.free j hj).1, ?_⟩, h0, h1⟩
  · have hi : i < 4 := (List.getElem?_eq_some_iff.1 hu).1
    rw [cell_set_off _ _ _ _ (by simp; omega)]; exact h.ring j hj i u hu
  · rw [frozen_set]; exact (h.free j hj).2

theorem ShelfRaw.setP {w : World} {s : Nat} {low : Int} {r : Nat → P} (h : ShelfRaw w s low r) (k : Nat) (hk : k < 64) (p : P) :
    ShelfRaw ((((w.setCell ⟨s, k * 4, none⟩ (.int .u64 p.1)).setCell ⟨s, k * 4 + 1, none⟩ (.int .i64 p.2.1)).setCell ⟨s, k * 4 + 2, none⟩ (.int .u64 p.2.2.1)).setCell ⟨s, k * 4 + 3, none⟩ (.string p.2.2.2)) s low (putP r k p) := by
  have off : ∀ o : Nat, (o < k * 4 ∨ k * 4 + 3 < o) → ((((w.setCell ⟨s, k * 4, none⟩ (.int .u64 p.1)).setCell ⟨s, k * 4 + 1, none⟩ (.int .i64 p.2.1)).setCell ⟨s, k * 4 + 2, none⟩ (.int .u64 p.2.2.1)).setCell ⟨s, k * 4 + 3, none⟩ (.string p.2.2.2)).cell? ⟨s, o, none⟩ = w.cell? ⟨s, o, none⟩ := fun o ho => by
    rw [cell_set_off _ _ _ _ (by simp; omega), cell_set_off _ _ _ _ (by simp; omega), cell_set_off _ _ _ _ (by simp; omega), cell_set_off _ _ _ _ (by simp; omega)]
  refine ⟨?_, fun j hj i u hu => ?_, fun j hj => ⟨isSome_set (isSome_set (isSome_set (isSome_set (h.free j hj).1))), ?_⟩, h.l0, h.l1⟩
  · rw [off 256 (by omega)]; exact h.c256
  · have hi : i < 4 := (List.getElem?_eq_some_iff.1 hu).1
    unfold putP at hu
    by_cases e : j = k
    · subst e
      rw [if_pos rfl] at hu
      have e2 : i = 0 ∨ i = 1 ∨ i = 2 ∨ i = 3 := by omega
      rcases e2 with rfl | rfl | rfl | rfl
      · rw [cell_set_off _ _ _ _ (by simp), cell_set_off _ _ _ _ (by simp), cell_set_off _ _ _ _ (by simp)]
        exact (cell_set_same (h.ring j hj 0 _ rfl)).trans hu
      · rw [cell_set_off _ _ _ _ (by simp), cell_set_off _ _ _ _ (by simp)]
        refine (cell_set_same (u := .int .i64 (r j).2.1) ?_).trans hu
        rw [cell_set_off _ _ _ _ (by simp)]
        exact h.ring j hj 1 _ rfl
      · rw [cell_set_off _ _ _ _ (by simp)]
        refine (cell_set_same (u := .int .u64 (r j).2.2.1) ?_).trans hu
        rw [cell_set_off _ _ _ _ (by simp), cell_set_off _ _ _ _ (by simp)]
        exact h.ring j hj 2 _ rfl
      · refine (cell_set_same (u := .string (r j).2.2.2) ?_).trans hu
        rw [cell_set_off _ _ _ _ (by simp), cell_set_off _ _ _ _ (by simp), cell_set_off _ _ _ _ (by simp)]
        exact h.ring j hj 3 _ rfl
    · rw [if_neg e] at hu
      rw [off _ (by omega)]
      exact h.ring j hj i u hu
  · rw [frozen_set, frozen_set, frozen_set, frozen_set]; exact (h.free j hj).2

set_option maxHeartbeats 1000000 in
theorem sat_any (s : Nat) (low : Int) (r : Nat → P) (n : Int) (w : World) (h : ShelfRaw w s low r) (n0 : 0 ≤ n) (n1 : n ≤ 18446744073709551615) (k : Nat) (hk : n.toNat % 64 = k) :
    Calls Tryz.prog 299 #[.pointer (some ⟨s, 0, none⟩), .int .u64 n] w fun e w' => e = .returned (.pointer (some ⟨s, k * 4, none⟩)) ∧ w' = w := by
  have hm : n.tmod 64 = (k : Int) := by
    rw [Int.tmod_eq_emod_of_nonneg (by omega)]
    omega
  have hk8 : k < 64 := by omega
  have hkb : (k : Int) % 18446744073709551616 = k := by omega
  clear hk h
  go_enter Tryz.func299, Tryz.ntmps299
  go_wp2_with fail
  go_ret
  exact ⟨rfl, rfl⟩

/-- Is a number within the window? -/
def within (low n : Int) : Bool := decide (low < n) && decide (n - low ≤ 64)

set_option maxHeartbeats 1000000 in
theorem swithin_any (s : Nat) (low : Int) (r : Nat → P) (n : Int) (w : World) (h : ShelfRaw w s low r) (n0 : 0 ≤ n) (n1 : n ≤ 18446744073709551615) :
    Calls Tryz.prog 302 #[.pointer (some ⟨s, 0, none⟩), .int .u64 n] w fun e w' => e = .returned (.bool (within low n)) ∧ w' = w := by
  have hc := h.c256
  have l0 := h.l0
  have l1 := h.l1
  clear h
  by_cases hlt : low < n
  · have hd : decide (low < n) = true := by simpa using hlt
    have hs : (n - low) % 18446744073709551616 = n - low := by omega
    have hv : within low n = decide (n - low ≤ 64) := by unfold within; rw [hd]; rfl
    rw [hv]
    clear hv hlt
    go_enter Tryz.func302, Tryz.ntmps302
    go_wp2_with fail
    go_ret
    exact ⟨rfl, rfl⟩
  · have hd : decide (low < n) = false := by simpa using hlt
    have hv : within low n = false := by unfold within; rw [hd]; rfl
    rw [hv]
    clear hv hlt
    go_enter Tryz.func302, Tryz.ntmps302
    go_wp2_with fail
    go_ret
    exact ⟨rfl, rfl⟩

/-- Does a shelf have a number? -/
def hasP (low : Int) (r : Nat → P) (n : Int) : Bool := within low n && ((r (n.toNat % 64)).1 == n)

set_option maxHeartbeats 1000000 in
theorem shas_any (s : Nat) (low : Int) (r : Nat → P) (n : Int) (w : World) (h : ShelfRaw w s low r) (n0 : 0 ≤ n) (n1 : n ≤ 18446744073709551615) :
    Calls Tryz.prog 270 #[.pointer (some ⟨s, 0, none⟩), .int .u64 n] w fun e w' => e = .returned (.bool (hasP low r n)) ∧ w' = w := by
  obtain ⟨k, hk⟩ : ∃ k, n.toNat % 64 = k := ⟨_, rfl⟩
  have hc : w.cell? ⟨s, k * 4, none⟩ = some (.int .u64 (r k).1) := h.ring k (by omega) 0 _ rfl
  have H := Lib.hid h
  have HK := Lib.hid hk
  cases hb : within low n
  · have hv : hasP low r n = false := by unfold hasP; rw [hb]; rfl
    rw [hv]
    have HB := Lib.hid hb
    clear h hk hv hb
    go_enter Tryz.func270, Tryz.ntmps270
    go_wp2_with (go_at_call 302; refine (swithin_any s low r n _ H.out n0 n1).mono ?_; rintro e w1 ⟨rfl, rfl⟩; rw [HB.out])
    go_ret
    exact ⟨rfl, rfl⟩
  · have hv : hasP low r n = ((r k).1 == n) := by unfold hasP; rw [hb, hk]; rfl
    rw [hv]
    have HB := Lib.hid hb
    clear h hk hv hb
    go_enter Tryz.func270, Tryz.ntmps270
    go_wp2_with (first | (go_at_call 302; refine (swithin_any s low r n _ H.out n0 n1).mono ?_; rintro e w1 ⟨rfl, rfl⟩; rw [HB.out]) | (go_at_call 299; refine (sat_any s low r n _ H.out n0 n1 k HK.out).mono ?_; rintro e w1 ⟨rfl, rfl⟩))
    go_ret
    exact ⟨rfl, rfl⟩

end Go.Proofs.YtpbamamplmbgjaaGreatDoor
