/-
  The walks of order's Desk.
-/
import Derived.Test.YtaaaiggbnkeblaaGreatDoorMClerk
import Derived.Deep.MidRow
import Derived.Deep.RegionHeld3
import Derived.Deep.Cut
namespace Go.Proofs.YtaaaiggbnkeblaaGreatDoor
set_option linter.unusedSimpArgs false
set_option linter.unusedVariables false
open Go.RowKit

/-- A message: its sender, its number, its text. -/
abbrev M := Int × Int × ByteArray
def mcells (m : M) : List Value := [.int .i64 m.1, .int .u64 m.2.1, .string m.2.2]
def mval (m : M) : Value := .agg (mcells m).toArray
def m0 : M := (0, 0, ByteArray.empty)

/-- A Desk at block d. -/
structure DeskRaw (w : World) (d : Nat) (me num head many : Int) (r : Nat → M) : Prop where
  c0 : w.cell? ⟨d, 0, none⟩ = some (.int .i64 me)
  c1 : w.cell? ⟨d, 1, none⟩ = some (.int .u64 num)
  c26 : w.cell? ⟨d, 26, none⟩ = some (.int .i64 head)
  c27 : w.cell? ⟨d, 27, none⟩ = some (.int .i64 many)
  ring : ∀ j, j < 8 → w.rangeAt d (2 + j * 3) (mcells (r j))
  free : w.there d 0 28
  h0 : 0 ≤ head
  h1 : head < 8
  m0 : 0 ≤ many
  m1 : many ≤ 8
  n0 : 0 ≤ num
  n1 : num ≤ 18446744073709551615

theorem rangeAt_mod {S : List Nat} {w w' : World} {d o : Nat} {cs : List Value} (h : w.rangeAt d o cs) (hd : d < w.heap.size) (hm : Mod S w w') (hs : d ∉ S) : w'.rangeAt d o cs := fun j v hv => (hm.cell hd hs).trans (h j v hv)
theorem there_mod {S : List Nat} {w w' : World} {d o n : Nat} (h : w.there d o n) (hd : d < w.heap.size) (hm : Mod S w w') (hs : d ∉ S) : w'.there d o n := fun j hj => ⟨by rw [hm.cell hd hs]; exact (h j hj).1, by rw [hm.frozen hd hs]; exact (h j hj).2⟩
theorem cell_ltd {w : World} {a : Addr} {v : Value} (h : w.cell? a = some v) : a.block < w.heap.size := block_lt_of_cell h

theorem some_in {w : World} {g j : Nat} {cs : Array Value} {t : TypeId} {fz : Nat × Nat} (h : w.heap[g]? = some (.cells cs t fz)) (hj : j < cs.size) : (w.cell? ⟨g, j, none⟩).isSome = true := by
  rw [cell_in h (Array.getElem?_eq_getElem hj)]
  rfl

theorem DeskRaw.lt {w : World} {d : Nat} {me num head many : Int} {r : Nat → M} (h : DeskRaw w d me num head many r) : d < w.heap.size := cell_ltd h.c0
theorem DeskRaw.mod {S : List Nat} {w w' : World} {d : Nat} {me num head many : Int} {r : Nat → M} (h : DeskRaw w d me num head many r) (hm : Mod S w w') (hs : d ∉ S) : DeskRaw w' d me num head many r :=
  ⟨(hm.cell h.lt hs).trans h.c0, (hm.cell h.lt hs).trans h.c1, (hm.cell h.lt hs).trans h.c26, (hm.cell h.lt hs).trans h.c27, fun j hj => rangeAt_mod (h.ring j hj) h.lt hm hs, there_mod h.free h.lt hm hs, h.h0, h.h1, h.m0, h.m1, h.n0, h.n1⟩

theorem frozen_set (w : World) (p a : Addr) (v : Value) : (w.setCell p v).frozen? a = w.frozen? a := World.frozen?_setCell _ _ _ _
theorem DeskRaw.setNum {w : World} {d : Nat} {me num head many : Int} {r : Nat → M} (h : DeskRaw w d me num head many r) (v : Int) (h0 : 0 ≤ v) (h1 : v ≤ 18446744073709551615) : DeskRaw (w.setCell ⟨d, 1, none⟩ (.int .u64 v)) d me v head many r := by
  refine ⟨?_, cell_set_same h.c1, ?_, ?_, fun j hj i u hu => ?_, fun j hj => ⟨?_, ?_⟩, h.h0, h.h1, h.m0, h.m1, h0, h1⟩
  · rw [cell_set_off _ _ _ _ (by simp)]; exact h.c0
  · rw [cell_set_off _ _ _ _ (by simp)]; exact h.c26
  · rw [cell_set_off _ _ _ _ (by simp)]; exact h.c27
  · rw [cell_set_off _ _ _ _ (by simp; omega)]; exact h.ring j hj i u hu
  · by_cases e : j = 1
    · subst e; rw [cell_set_same h.c1]; rfl
    · rw [cell_set_off _ _ _ _ (by simp; omega)]; exact (h.free j hj).1
  · rw [frozen_set]; exact (h.free j hj).2
theorem DeskRaw.setMany {w : World} {d : Nat} {me num head many : Int} {r : Nat → M} (h : DeskRaw w d me num head many r) (v : Int) (h0 : 0 ≤ v) (h1 : v ≤ 8) : DeskRaw (w.setCell ⟨d, 27, none⟩ (.int .i64 v)) d me num head v r := by
  refine ⟨?_, ?_, ?_, cell_set_same h.c27, fun j hj i u hu => ?_, fun j hj => ⟨?_, ?_⟩, h.h0, h.h1, h0, h1, h.n0, h.n1⟩
  · rw [cell_set_off _ _ _ _ (by simp)]; exact h.c0
  · rw [cell_set_off _ _ _ _ (by simp)]; exact h.c1
  · rw [cell_set_off _ _ _ _ (by simp)]; exact h.c26
  · have hi : i < 3 := (List.getElem?_eq_some_iff.1 hu).1
    rw [cell_set_off _ _ _ _ (by simp; omega)]; exact h.ring j hj i u hu
  · by_cases e : j = 27
    · subst e; rw [cell_set_same h.c27]; rfl
    · rw [cell_set_off _ _ _ _ (by simp; omega)]; exact (h.free j hj).1
  · rw [frozen_set]; exact (h.free j hj).2
theorem DeskRaw.setHead {w : World} {d : Nat} {me num head many : Int} {r : Nat → M} (h : DeskRaw w d me num head many r) (v : Int) (h0 : 0 ≤ v) (h1 : v < 8) : DeskRaw (w.setCell ⟨d, 26, none⟩ (.int .i64 v)) d me num v many r := by
  refine ⟨?_, ?_, cell_set_same h.c26, ?_, fun j hj i u hu => ?_, fun j hj => ⟨?_, ?_⟩, h0, h1, h.m0, h.m1, h.n0, h.n1⟩
  · rw [cell_set_off _ _ _ _ (by simp)]; exact h.c0
  · rw [cell_set_off _ _ _ _ (by simp)]; exact h.c1
  · rw [cell_set_off _ _ _ _ (by simp)]; exact h.c27
  · have hi : i < 3 := (List.getElem?_eq_some_iff.1 hu).1
    rw [cell_set_off _ _ _ _ (by simp; omega)]; exact h.ring j hj i u hu
  · by_cases e : j = 26
    · subst e; rw [cell_set_same h.c26]; rfl
    · rw [cell_set_off _ _ _ _ (by simp; omega)]; exact (h.free j hj).1
  · rw [frozen_set]; exact (h.free j hj).2
theorem isSome_set {w : World} {p a : Addr} {v : Value} (h : (w.cell? a).isSome = true) : ((w.setCell p v).cell? a).isSome = true := by
  by_cases e : p = a
  · subst e
    obtain ⟨u, hu⟩ := Option.isSome_iff_exists.1 h
    rw [cell_set_same hu]; rfl
  · rw [World.cell?_setCell_other _ _ _ _ e]; exact h
def putRing (r : Nat → M) (k : Nat) (m : M) : Nat → M := fun j => if j = k then m else r j
theorem DeskRaw.setMsg {w : World} {d : Nat} {me num head many : Int} {r : Nat → M} (h : DeskRaw w d me num head many r) (k : Nat) (hk : k < 8) (m : M) :
    DeskRaw (((w.setCell ⟨d, 2 + k * 3, none⟩ (.int .i64 m.1)).setCell ⟨d, 2 + k * 3 + 1, none⟩ (.int .u64 m.2.1)).setCell ⟨d, 2 + k * 3 + 2, none⟩ (.string m.2.2)) d me num head many (putRing r k m) := by
  have off : ∀ o : Nat, (o < 2 + k * 3 ∨ 2 + k * 3 + 2 < o) → (((w.setCell ⟨d, 2 + k * 3, none⟩ (.int .i64 m.1)).setCell ⟨d, 2 + k * 3 + 1, none⟩ (.int .u64 m.2.1)).setCell ⟨d, 2 + k * 3 + 2, none⟩ (.string m.2.2)).cell? ⟨d, o, none⟩ = w.cell? ⟨d, o, none⟩ := fun o ho => by
    rw [cell_set_off _ _ _ _ (by simp; omega), cell_set_off _ _ _ _ (by simp; omega), cell_set_off _ _ _ _ (by simp; omega)]
  refine ⟨?_, ?_, ?_, ?_, fun j hj i u hu => ?_, fun j hj => ⟨isSome_set (isSome_set (isSome_set (h.free j hj).1)), ?_⟩, h.h0, h.h1, h.m0, h.m1, h.n0, h.n1⟩
  · rw [off 0 (by omega)]; exact h.c0
  · rw [off 1 (by omega)]; exact h.c1
  · rw [off 26 (by omega)]; exact h.c26
  · rw [off 27 (by omega)]; exact h.c27
  · have hi : i < 3 := (List.getElem?_eq_some_iff.1 hu).1
    unfold putRing at hu
    by_cases e : j = k
    · subst e
      rw [if_pos rfl] at hu
      have e2 : i = 0 ∨ i = 1 ∨ i = 2 := by omega
      rcases e2 with rfl | rfl | rfl
      · rw [cell_set_off _ _ _ _ (by simp), cell_set_off _ _ _ _ (by simp)]
        exact (cell_set_same (h.ring j hj 0 _ rfl)).trans hu
      · rw [cell_set_off _ _ _ _ (by simp)]
        refine (cell_set_same (u := .int .u64 (r j).2.1) ?_).trans hu
        rw [cell_set_off _ _ _ _ (by simp)]
        exact h.ring j hj 1 _ rfl
      · refine (cell_set_same (u := .string (r j).2.2) ?_).trans hu
        rw [cell_set_off _ _ _ _ (by simp), cell_set_off _ _ _ _ (by simp)]
        exact h.ring j hj 2 _ rfl
    · rw [if_neg e] at hu
      rw [off _ (by omega)]
      exact h.ring j hj i u hu
  · rw [frozen_set, frozen_set, frozen_set]; exact (h.free j hj).2
theorem World.heap_drew2 (w : World) : w.drew.drew.heap = w.heap := rfl
theorem cell_drew2 (w : World) (a : Addr) : w.drew.drew.cell? a = w.cell? a := rfl

/-- What a Desk holds: those that wait, in order. -/
def DeskAt (w : World) (d : Nat) (me num : Int) (L : List M) : Prop :=
  ∃ head r, DeskRaw w d me num head (L.length : Int) r ∧ ∀ i m, L[i]? = some m → r ((head.toNat + i) % 8) = m

theorem DeskAt.mod {S : List Nat} {w w' : World} {d : Nat} {me num : Int} {L : List M} (h : DeskAt w d me num L) (hm : Mod S w w') (hs : d ∉ S) : DeskAt w' d me num L := by
  obtain ⟨head, r, h1, h2⟩ := h
  exact ⟨head, r, h1.mod hm hs, h2⟩

def NewDeskPost (w : World) (me num : Int) (e : Ending) (w' : World) : Prop :=
  ∃ d, e = .returned (.pointer (some ⟨d, 0, none⟩)) ∧ w.heap.size ≤ d ∧ DeskAt w' d me num [] ∧ Mod [] w w'

set_option maxHeartbeats 1000000 in
theorem newdesk_any (me num : Int) (w : World) (hb : isNode me = true) (h0 : 0 ≤ num) (h1 : num ≤ 18446744073709551615) :
    Calls Tryz.prog 119 #[.int .i64 me, .int .u64 num] w (NewDeskPost w me num) := by
  have HB := Lib.hid hb
  have H1 := Lib.hid h1
  clear hb h1
  go_enter Tryz.func119, Tryz.ntmps119
  go_wp2_with (go_at_call 154; refine (onode_is me true _ HB.out).mono ?_; rintro e w1 ⟨rfl, rfl⟩)
  go_ret
  have hh := heap_new w (.cells #[.int .i64 me, .int .u64 num, .int .i64 0, .int .u64 0, .string ByteArray.empty, .int .i64 0, .int .u64 0, .string ByteArray.empty, .int .i64 0, .int .u64 0, .string ByteArray.empty, .int .i64 0, .int .u64 0, .string ByteArray.empty, .int .i64 0, .int .u64 0, .string ByteArray.empty, .int .i64 0, .int .u64 0, .string ByteArray.empty, .int .i64 0, .int .u64 0, .string ByteArray.empty, .int .i64 0, .int .u64 0, .string ByteArray.empty, .int .i64 0, .int .i64 0] 268)
  refine ⟨_, rfl, Nat.le_refl _, ⟨0, fun _ => m0, ⟨cell_in hh rfl, cell_in hh rfl, cell_in hh rfl, cell_in hh rfl, fun j hj i v hv => ?_, fun j hj => ⟨?_, free_in hh⟩, by omega, by omega, by omega, by simp, h0, H1.out⟩, fun i m hm => by simp at hm⟩, (Mod.refl _ _).alloc _⟩
  · have hi : i < 3 := (List.getElem?_eq_some_iff.1 hv).1
    refine cell_in hh ?_
    have e1 : j = 0 ∨ j = 1 ∨ j = 2 ∨ j = 3 ∨ j = 4 ∨ j = 5 ∨ j = 6 ∨ j = 7 := by omega
    have e2 : i = 0 ∨ i = 1 ∨ i = 2 := by omega
    rcases e1 with rfl | rfl | rfl | rfl | rfl | rfl | rfl | rfl <;> rcases e2 with rfl | rfl | rfl <;> exact hv
  · exact some_in hh (by simp; omega)

theorem newdesk_nil (me num : Int) (w : World) (hb : isNode me = false) :
    Calls Tryz.prog 119 #[.int .i64 me, .int .u64 num] w fun e w' => e = .returned (.pointer none) ∧ w = w' := by
  have HB := Lib.hid hb
  clear hb
  go_enter Tryz.func119, Tryz.ntmps119
  go_wp2_with (go_at_call 154; refine (onode_is me false _ HB.out).mono ?_; rintro e w1 ⟨rfl, rfl⟩)
  go_ret
  exact ⟨rfl, rfl⟩

set_option maxHeartbeats 1000000 in
theorem dat_any (d : Nat) (me num head many : Int) (r : Nat → M) (i : Int) (w : World) (h : DeskRaw w d me num head many r) (i0 : 0 ≤ i) (i1 : i ≤ 8) (k : Nat) (hk : (head.toNat + i.toNat) % 8 = k) :
    Calls Tryz.prog 159 #[.pointer (some ⟨d, 0, none⟩), .int .i64 i] w fun e w' => e = .returned (.pointer (some ⟨d, 2 + k * 3, none⟩)) ∧ w' = w.drew := by
  have h26 := h.c26
  have a0 := h.h0
  have a1 := h.h1
  clear h
  have hq : wrap64 (head + i) = head + i := wrap_small (by omega) (by omega)
  have hm : (head + i).tmod 8 = (k : Int) := by
    rw [Int.tmod_eq_emod_of_nonneg (by omega)]
    omega
  have hk8 : k < 8 := by omega
  clear hk
  go_enter Tryz.func159, Tryz.ntmps159
  go_wp2_with fail
  go_region
  go_wp2
  go_ret
  exact ⟨rfl, rfl⟩

/-- Send's error. -/
def sendErr (num many : Int) (t : ByteArray) : Int := if 64 < t.size then 12 else if many = 8 then 180 else if num = 18446744073709551615 then 60 else 0

def SendPost (w : World) (d : Nat) (me num : Int) (L : List M) (t : ByteArray) (e : Ending) (w' : World) : Prop :=
  e = .returned (.tuple #[mval (if sendErr num L.length t = 0 then (me, num + 1, t) else m0), .int .i64 (sendErr num L.length t)]) ∧ Mod [d] w w' ∧
    DeskAt w' d me (if sendErr num L.length t = 0 then num + 1 else num) (if sendErr num L.length t = 0 then L ++ [(me, num + 1, t)] else L)

theorem send_same {w w' : World} {d : Nat} {me num er : Int} {L : List M} {t : ByteArray} (h : DeskAt w d me num L) (he : sendErr num L.length t = er) (h0 : er ≠ 0) (hm : Mod [] w w') :
    SendPost w d me num L t (.returned (.tuple #[mval m0, .int .i64 er])) w' := by
  subst he
  refine ⟨by rw [if_neg h0], hm.mono (by simp), ?_⟩
  rw [if_neg h0, if_neg h0]
  exact h.mod hm (by simp)

theorem putRing_app {L : List M} {r : Nat → M} {h k : Nat} {m : M} (hl : ∀ i m', L[i]? = some m' → r ((h + i) % 8) = m') (hk : (h + L.length) % 8 = k) (hL : L.length < 8) (i : Nat) (m' : M) (hi : (L ++ [m])[i]? = some m') :
    putRing r k m ((h + i) % 8) = m' := by
  unfold putRing
  by_cases e : i < L.length
  · rw [List.getElem?_append_left e] at hi
    rw [if_neg (by omega)]
    exact hl i m' hi
  · rw [List.getElem?_append_right (by omega)] at hi
    have hlt : i - L.length < 1 := by
      have := (List.getElem?_eq_some_iff.1 hi).1
      simpa using this
    have e2 : i = L.length := by omega
    subst e2
    rw [if_pos hk]
    simpa using hi

theorem send_fin {w W4 : World} {d many k : Nat} {me num head : Int} {L : List M} {t : ByteArray} {r : Nat → M} (HE : sendErr num L.length t = 0) (HM : L.length = many) (HL : ∀ i m, L[i]? = some m → r ((head.toNat + i) % 8) = m) (hd : d < w.heap.size) (HK : (head.toNat + (many : Int).toNat) % 8 = k) (hm8 : ¬ many = 8)
    (HW4 : DeskRaw W4 d me (num + 1) head many (putRing r k (me, num + 1, t))) (HM4 : Mod [d] w W4) (b0 : W4.cell? ⟨w.heap.size + 1, 0, none⟩ = some (.int .i64 me)) (z0 : W4.cell? ⟨w.heap.size, 0, none⟩ = some (.int .i64 0)) (z1 : W4.cell? ⟨w.heap.size, 1, none⟩ = some (.int .u64 0)) (z2 : W4.cell? ⟨w.heap.size, 2, none⟩ = some (.string ⟨#[]⟩)) :
    SendPost w d me num L t (.returned (.tuple #[mval (me, num + 1, t), .int .i64 0])) ((((W4.setCell ⟨d, 27, none⟩ (.int .i64 ((many : Int) + 1))).setCell ⟨w.heap.size, 0, none⟩ (.int .i64 me)).setCell ⟨w.heap.size, 1, none⟩ (.int .u64 (num + 1))).setCell ⟨w.heap.size, 2, none⟩ (.string t)) ∧
    ((((W4.setCell ⟨d, 27, none⟩ (.int .i64 ((many : Int) + 1))).setCell ⟨w.heap.size, 0, none⟩ (.int .i64 me)).setCell ⟨w.heap.size, 1, none⟩ (.int .u64 (num + 1))).setCell ⟨w.heap.size, 2, none⟩ (.string t)).cell? ⟨w.heap.size, 0, none⟩ = some (.int .i64 me) ∧
    ((((W4.setCell ⟨d, 27, none⟩ (.int .i64 ((many : Int) + 1))).setCell ⟨w.heap.size, 0, none⟩ (.int .i64 me)).setCell ⟨w.heap.size, 1, none⟩ (.int .u64 (num + 1))).setCell ⟨w.heap.size, 2, none⟩ (.string t)).cell? ⟨w.heap.size, 1, none⟩ = some (.int .u64 (num + 1)) ∧
    ((((W4.setCell ⟨d, 27, none⟩ (.int .i64 ((many : Int) + 1))).setCell ⟨w.heap.size, 0, none⟩ (.int .i64 me)).setCell ⟨w.heap.size, 1, none⟩ (.int .u64 (num + 1))).setCell ⟨w.heap.size, 2, none⟩ (.string t)).cell? ⟨w.heap.size, 2, none⟩ = some (.string t) := by
  have hm1 := HW4.m1
  have hdn : d ≠ w.heap.size := by omega
  refine ⟨⟨by rw [if_pos HE, HE], (((HM4.setCell (.inl (by simp)) _).setCell (.inr (by simp)) _).setCell (.inr (by simp)) _).setCell (.inr (by simp)) _, ?_⟩, ?_, ?_, ?_⟩
  · rw [if_pos HE, if_pos HE]
    refine ⟨head, putRing r k (me, num + 1, t), ?_, putRing_app HL (by rw [HM]; simpa using HK) (by omega)⟩
    have h := HW4.setMany ((many : Int) + 1) (by omega) (by omega)
    have hlen : ((L ++ [(me, num + 1, t)]).length : Int) = (many : Int) + 1 := by simp; omega
    rw [hlen]
    exact h.mod (S := [w.heap.size]) ((((Mod.refl _ _).setCell (.inl (by simp)) _).setCell (.inl (by simp)) _).setCell (.inl (by simp)) _) (by simpa using hdn)
  · rw [cell_set_off _ _ _ _ (by simp), cell_set_off _ _ _ _ (by simp)]
    exact cell_set_same ((cell_set_far _ _ _ _ hdn).trans z0)
  · rw [cell_set_off _ _ _ _ (by simp)]
    refine cell_set_same (u := .int .u64 0) ?_
    rw [cell_set_off _ _ _ _ (by simp)]
    exact (cell_set_far _ _ _ _ hdn).trans z1
  · refine cell_set_same (u := .string ⟨#[]⟩) ?_
    rw [cell_set_off _ _ _ _ (by simp), cell_set_off _ _ _ _ (by simp)]
    exact (cell_set_far _ _ _ _ hdn).trans z2

set_option maxRecDepth 100000 in
set_option maxHeartbeats 4000000 in
theorem send_any (d : Nat) (me num : Int) (L : List M) (t : ByteArray) (w : World) (h : DeskAt w d me num L) (ht : t.size ≤ 9223372036854775807) :
    Calls Tryz.prog 122 #[.pointer (some ⟨d, 0, none⟩), .string t] w (SendPost w d me num L t) := by
  have H := Lib.hid h
  obtain ⟨head, r, hr, hl⟩ := h
  have hd := hr.lt
  have c0 := hr.c0
  have c1 := hr.c1
  have c26 := hr.c26
  have c27 := hr.c27
  have f1 := (hr.free 1 (by omega)).2
  have f27 := (hr.free 27 (by omega)).2
  simp only [Nat.zero_add] at f1 f27
  have h0 := hr.h0
  have h1 := hr.h1
  have hm1 := hr.m1
  have hn0 := hr.n0
  have hn1 := hr.n1
  obtain ⟨many, hmany⟩ : ∃ many, L.length = many := ⟨_, rfl⟩
  rw [hmany] at c27 hm1
  obtain ⟨z, hz⟩ : ∃ z, t.size = z := ⟨_, rfl⟩
  have HL := Lib.hid hl
  have HR := Lib.hid hr
  have HM := Lib.hid hmany
  clear hl hr hmany
  by_cases ht64 : 64 < z
  · have he : sendErr num L.length t = 12 := by unfold sendErr; rw [if_pos (by omega)]
    have HE := Lib.hid he
    clear he
    go_enter Tryz.func122, Tryz.ntmps122
    go_wp2_with fail
    refine bodyPost_ret (v := .tuple #[mval m0, .int .i64 12]) (by simp [results, Tryz.results122, go_sem, mval, m0, mcells]; rfl) rfl ?_
    exact send_same H.out HE.out (by decide) ((Mod.refl _ _).alloc _)
  have htd : decide ((64:Int) < (z:Int)) = false := by simp; omega
  by_cases hm8 : many = 8
  · have he : sendErr num L.length t = 180 := by unfold sendErr; rw [if_neg (by omega), HM.out, if_pos (by omega)]
    have HE := Lib.hid he
    clear he
    subst hm8
    go_enter Tryz.func122, Tryz.ntmps122
    go_wp2_with fail
    refine bodyPost_ret (v := .tuple #[mval m0, .int .i64 180]) (by simp [results, Tryz.results122, go_sem, mval, m0, mcells]; rfl) rfl ?_
    exact send_same H.out HE.out (by decide) ((Mod.refl _ _).alloc _)
  have hmd : ((many:Int) == 8) = false := by simp; omega
  by_cases hnx : num = 18446744073709551615
  · have he : sendErr num L.length t = 60 := by unfold sendErr; rw [if_neg (by omega), HM.out, if_neg (by omega), if_pos hnx]
    have HE := Lib.hid he
    clear he
    subst hnx
    go_enter Tryz.func122, Tryz.ntmps122
    go_wp2_with fail
    refine bodyPost_ret (v := .tuple #[mval m0, .int .i64 60]) (by simp [results, Tryz.results122, go_sem, mval, m0, mcells]; rfl) rfl ?_
    exact send_same H.out HE.out (by decide) ((Mod.refl _ _).alloc _)
  have hnd : (num == 18446744073709551615) = false := by simpa using hnx
  have hx1 : (num + 1) % 18446744073709551616 = num + 1 := by omega
  have he : sendErr num L.length t = 0 := by unfold sendErr; rw [if_neg (by omega), HM.out, if_neg (by omega), if_neg hnx]
  have hs1 := cell_set_same (v := .int .u64 (num + 1)) (show (w.alloc (.cells #[.int .i64 0, .int .u64 0, .string ByteArray.empty] 156)).cell? ⟨d, 1, none⟩ = some (.int .u64 num) from (((Mod.refl [] w).alloc _).cell hd (by simp)).trans c1)
  have HE := Lib.hid he
  clear he
  go_enter Tryz.func122, Tryz.ntmps122
  go_wp2_with fail
  go_region
  have hraw2 : DeskRaw (((w.setCell ⟨d, 1, none⟩ (.int .u64 (num + 1))).alloc (.cells #[.int .i64 0, .int .u64 0, .string ⟨#[]⟩] 156)).alloc (.cells #[.int .i64 me, .int .u64 (num + 1), .string t] 156)).drew d me (num + 1) head many r := by
    have := HR.out.setNum (num + 1) (by omega) (by omega)
    rw [HM.out] at this
    exact this.mod ((((Mod.refl [] _).alloc _).alloc _).drew) (by simp)
  have hm2 : Mod [d] w (((w.setCell ⟨d, 1, none⟩ (.int .u64 (num + 1))).alloc (.cells #[.int .i64 0, .int .u64 0, .string ⟨#[]⟩] 156)).alloc (.cells #[.int .i64 me, .int .u64 (num + 1), .string t] 156)).drew := (((((Mod.refl [d] _).setCell (.inl (by simp)) _).alloc _).alloc _).drew)
  have hsz : (w.setCell ⟨d, 1, none⟩ (.int .u64 (num + 1))).heap.size = w.heap.size := by simp [World.setCell]
  have hb2 : (((w.setCell ⟨d, 1, none⟩ (.int .u64 (num + 1))).alloc (.cells #[.int .i64 0, .int .u64 0, .string ⟨#[]⟩] 156)).alloc (.cells #[.int .i64 me, .int .u64 (num + 1), .string t] 156)).drew.heap[w.heap.size + 1]? = some (.cells #[.int .i64 me, .int .u64 (num + 1), .string t] 156) := by
    have := heap_top (w.setCell ⟨d, 1, none⟩ (.int .u64 (num + 1))) (.cells #[.int .i64 0, .int .u64 0, .string ⟨#[]⟩] 156) (.cells #[.int .i64 me, .int .u64 (num + 1), .string t] 156)
    rw [hsz] at this
    exact this
  have hb1 : (((w.setCell ⟨d, 1, none⟩ (.int .u64 (num + 1))).alloc (.cells #[.int .i64 0, .int .u64 0, .string ⟨#[]⟩] 156)).alloc (.cells #[.int .i64 me, .int .u64 (num + 1), .string t] 156)).drew.heap[w.heap.size]? = some (.cells #[.int .i64 0, .int .u64 0, .string ⟨#[]⟩] 156) := by
    have := heap_two (w.setCell ⟨d, 1, none⟩ (.int .u64 (num + 1))) (.cells #[.int .i64 0, .int .u64 0, .string ⟨#[]⟩] 156) (.cells #[.int .i64 me, .int .u64 (num + 1), .string t] 156)
    rw [hsz] at this
    exact this
  generalize hW2 : (((w.setCell ⟨d, 1, none⟩ (.int .u64 (num + 1))).alloc (.cells #[.int .i64 0, .int .u64 0, .string ⟨#[]⟩] 156)).alloc (.cells #[.int .i64 me, .int .u64 (num + 1), .string t] 156)).drew = W2 at hraw2 hm2 hb2 hb1 ⊢
  clear hs1 hW2 c0 c1 c26 c27 f1 f27
  have e27 := hraw2.c27
  have b0 : W2.cell? ⟨w.heap.size + 1, 0, none⟩ = some (.int .i64 me) := cell_in hb2 rfl
  have b1 : W2.cell? ⟨w.heap.size + 1, 1, none⟩ = some (.int .u64 (num + 1)) := cell_in hb2 rfl
  have b2 : W2.cell? ⟨w.heap.size + 1, 2, none⟩ = some (.string t) := cell_in hb2 rfl
  have HW := Lib.hid hraw2
  have HM2 := Lib.hid hm2
  have HB1 := Lib.hid hb1
  have HB2 := Lib.hid hb2
  obtain ⟨k, hk⟩ : ∃ k, (head.toNat + (many : Int).toNat) % 8 = k := ⟨_, rfl⟩
  have hk8 : k < 8 := by omega
  have HK := Lib.hid hk
  have s0 : W2.cell? ⟨d, 2 + k * 3, none⟩ = some (.int .i64 (r k).1) := hraw2.ring k hk8 0 _ rfl
  have s1 : W2.cell? ⟨d, 2 + k * 3 + 1, none⟩ = some (.int .u64 (r k).2.1) := hraw2.ring k hk8 1 _ rfl
  have s2 : W2.cell? ⟨d, 2 + k * 3 + 2, none⟩ = some (.string (r k).2.2) := hraw2.ring k hk8 2 _ rfl
  have q0 := (hraw2.free (2 + k * 3) (by omega)).2
  have q1 := (hraw2.free (2 + k * 3 + 1) (by omega)).2
  have q2 := (hraw2.free (2 + k * 3 + 2) (by omega)).2
  have q27 := (hraw2.free 27 (by omega)).2
  rw [Nat.zero_add] at q0 q1 q2 q27
  have hfar : ∀ g o : Nat, g ≠ d → (((W2.setCell ⟨d, 2 + k * 3, none⟩ (.int .i64 me)).setCell ⟨d, 2 + k * 3 + 1, none⟩ (.int .u64 (num + 1))).setCell ⟨d, 2 + k * 3 + 2, none⟩ (.string t)).cell? ⟨g, o, none⟩ = W2.cell? ⟨g, o, none⟩ := fun g o hg => by
    rw [cell_set_far _ _ _ _ (Ne.symm hg), cell_set_far _ _ _ _ (Ne.symm hg), cell_set_far _ _ _ _ (Ne.symm hg)]
  have hraw3 := hraw2.setMsg k hk8 (me, num + 1, t)
  have hkeep := Lib.hid (And.intro ((cell_drew2 _ _).trans hraw3.c27) (And.intro ((cell_drew2 _ _).trans ((hfar (w.heap.size + 1) 0 (by omega)).trans b0)) (And.intro ((cell_drew2 _ _).trans ((hfar (w.heap.size + 1) 1 (by omega)).trans b1)) ((cell_drew2 _ _).trans ((hfar (w.heap.size + 1) 2 (by omega)).trans b2)))))
  have hblk : ∀ g, g ≠ d → (((W2.setCell ⟨d, 2 + k * 3, none⟩ (.int .i64 me)).setCell ⟨d, 2 + k * 3 + 1, none⟩ (.int .u64 (num + 1))).setCell ⟨d, 2 + k * 3 + 2, none⟩ (.string t)).heap[g]? = W2.heap[g]? := fun g hg => by
    rw [Below.heap_setCell _ _ _ _ hg, Below.heap_setCell _ _ _ _ hg, Below.heap_setCell _ _ _ _ hg]
  have hm3 : Mod [d] w (((W2.setCell ⟨d, 2 + k * 3, none⟩ (.int .i64 me)).setCell ⟨d, 2 + k * 3 + 1, none⟩ (.int .u64 (num + 1))).setCell ⟨d, 2 + k * 3 + 2, none⟩ (.string t)) := ((hm2.setCell (.inl (by simp)) _).setCell (.inl (by simp)) _).setCell (.inl (by simp)) _
  have HW3 := Lib.hid hraw3
  have HM3 := Lib.hid hm3
  have HB13 := Lib.hid ((hblk _ (by omega)).trans hb1)
  have HB23 := Lib.hid ((hblk _ (by omega)).trans hb2)
  clear hraw2 hm2 hb1 hb2 hk hfar hraw3 hblk hm3
  go_wp2_with fail
  go_region_held3 (fun w' => w'.cell? ⟨d, 27, none⟩ = some (.int .i64 many) ∧ w'.cell? ⟨w.heap.size + 1, 0, none⟩ = some (.int .i64 me) ∧ w'.cell? ⟨w.heap.size + 1, 1, none⟩ = some (.int .u64 (num + 1)) ∧ w'.cell? ⟨w.heap.size + 1, 2, none⟩ = some (.string t)) (first | exact hkeep.out | go_keep) (first | (go_at_call 159; refine (dat_any d me (num + 1) head many r many _ (HW.out.mod (Mod.refl [] _).drew (by simp)) (by omega) (by omega) k HK.out).mono ?_; rintro e w5 ⟨rfl, rfl⟩))
  have hraw4 := HW3.out.mod (Mod.refl [] _).drew.drew (by simp)
  have hm4 := HM3.out.drew.drew
  have hb14 := HB13.out
  have hb24 := HB23.out
  rw [← World.heap_drew2] at hb14 hb24
  rename_i hHeld
  clear hHeld hkeep e27 b0 b1 b2 HW HM2 HB1 HB2 s0 s1 s2 q0 q1 q2 q27 HW3 HM3 HB13 HB23
  generalize hW4 : (((W2.setCell ⟨d, 2 + k * 3, none⟩ (.int .i64 me)).setCell ⟨d, 2 + k * 3 + 1, none⟩ (.int .u64 (num + 1))).setCell ⟨d, 2 + k * 3 + 2, none⟩ (.string t)).drew.drew = W4 at hraw4 hm4 hb14 hb24 ⊢
  clear hW4
  have e27 := hraw4.c27
  have q27 := (hraw4.free 27 (by omega)).2
  rw [Nat.zero_add] at q27
  have b0 : W4.cell? ⟨w.heap.size + 1, 0, none⟩ = some (.int .i64 me) := cell_in hb24 rfl
  have b1 : W4.cell? ⟨w.heap.size + 1, 1, none⟩ = some (.int .u64 (num + 1)) := cell_in hb24 rfl
  have b2 : W4.cell? ⟨w.heap.size + 1, 2, none⟩ = some (.string t) := cell_in hb24 rfl
  have z0 : W4.cell? ⟨w.heap.size, 0, none⟩ = some (.int .i64 0) := cell_in hb14 rfl
  have z1 : W4.cell? ⟨w.heap.size, 1, none⟩ = some (.int .u64 0) := cell_in hb14 rfl
  have z2 : W4.cell? ⟨w.heap.size, 2, none⟩ = some (.string ⟨#[]⟩) := cell_in hb14 rfl
  have y0 : W4.frozen? ⟨w.heap.size, 0, none⟩ = false := free_in hb14
  have y1 : W4.frozen? ⟨w.heap.size, 1, none⟩ = false := free_in hb14
  have y2 : W4.frozen? ⟨w.heap.size, 2, none⟩ = false := free_in hb14
  have hne1 : ¬ w.heap.size = d := by omega
  have hne2 : ¬ w.heap.size + 1 = d := by omega
  have hne3 : ¬ d = w.heap.size := by omega
  have hne4 : ¬ d = w.heap.size + 1 := by omega
  have hwm : wrap64 ((many : Int) + 1) = (many : Int) + 1 := wrap_small (by omega) (by omega)
  have fin := send_fin HE.out HM.out HL.out hd HK.out hm8 hraw4 hm4 b0 z0 z1 z2
  have hc5 : ∀ g o : Nat, d ≠ g → (W4.setCell ⟨d, 27, none⟩ (.int .i64 ((many : Int) + 1))).cell? ⟨g, o, none⟩ = W4.cell? ⟨g, o, none⟩ := fun g o h => cell_set_far _ _ _ _ h
  have hf5 : ∀ a, (W4.setCell ⟨d, 27, none⟩ (.int .i64 ((many : Int) + 1))).frozen? a = W4.frozen? a := fun a => frozen_set _ _ _ _
  have b05 := (hc5 (w.heap.size + 1) 0 hne4).trans b0
  have b15 := (hc5 (w.heap.size + 1) 1 hne4).trans b1
  have b25 := (hc5 (w.heap.size + 1) 2 hne4).trans b2
  have z05 := (hc5 w.heap.size 0 hne3).trans z0
  have z15 := (hc5 w.heap.size 1 hne3).trans z1
  have z25 := (hc5 w.heap.size 2 hne3).trans z2
  have y05 := (hf5 ⟨w.heap.size, 0, none⟩).trans y0
  have y15 := (hf5 ⟨w.heap.size, 1, none⟩).trans y1
  have y25 := (hf5 ⟨w.heap.size, 2, none⟩).trans y2
  have FIN := Lib.hid fin
  have H5 := Lib.hid (And.intro b05 (And.intro b15 (And.intro b25 (And.intro z05 (And.intro z15 (And.intro z25 (And.intro y05 (And.intro y15 y25))))))))
  clear hraw4 hm4 hb14 hb24 b0 b1 b2 z0 z1 z2 y0 y1 y2 fin hc5 hf5 b05 b15 b25 z05 z15 z25 y05 y15 y25
  go_upto_region 11 with fail
  generalize hW5 : W4.setCell ⟨d, 27, none⟩ (.int .i64 ((many : Int) + 1)) = W5 at FIN H5 ⊢
  obtain ⟨b0, b1, b2, z0, z1, z2, y0, y1, y2⟩ := H5.out
  clear hW5 H5 e27 q27 hne1 hne2 hne3 hne4
  go_wp2_with fail
  obtain ⟨fin, r0, r1, r2⟩ := FIN.out
  refine bodyPost_ret (v := .tuple #[mval (me, num + 1, t), .int .i64 0]) (by simp [results, Tryz.results122, go_sem, mval, mcells, r0, r1, r2]) rfl ?_
  exact fin

end Go.Proofs.YtaaaiggbnkeblaaGreatDoor
