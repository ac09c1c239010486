/-
  lot.Some and round.Helpers with what is left; conventicleref09.Helpers.
-/
import Derived.Test.YtnapboojfhojjaaRndY
namespace Go.Proofs.Ytnapboojfhojjaa
open Go.RowKit

theorem Mod.cell_at {S : List Nat} {a b : World} (h : Mod S a b) {p : Addr} {v : Value} (hc : a.cell? p = some v) (hs : p.block ∉ S) : b.cell? p = some v := (h.cell (block_lt_of_cell hc) hs).trans hc

/-- What Some answers, and what is left. -/
def SomeAll (w : World) (d g : Nat) (ys ls' : List Int) (e : Ending) (w' : World) : Prop := ∃ a c, e = .returned (.slice a ys.length c) ∧ RdInts .i64 w' a ys ∧ LotsAt w' d g ls' ∧ Mod [d] w w' ∧ ∀ ad, a = some ad → w.heap.size ≤ ad.block

theorem some_all (d g : Nat) (a : Option Addr) (c m : Nat) (n : Int) (xs ls ys : List Int) (w : World) (hr : RdInts .i64 w a xs) (hlen : xs.length * 8 ≤ 140737488351232) (hl : LotsAt w d g ls) (hm : (m : Int) = min (max n 0) xs.length) (hy : (shufOut xs ls).take m = ys) :
    Calls Try.prog 31 #[.pointer (some ⟨d, 0, none⟩), .slice a xs.length c, .int .i64 n] w (SomeAll w d g ys (if n < 1 then ls else shufLots xs ls)) := by
  subst hy
  by_cases hn : n < 1
  · rw [if_pos hn]
    refine (some_zero _ _ n w hn).mono ?_
    rintro e w' ⟨rfl, rfl⟩
    obtain rfl : m = 0 := by omega
    exact ⟨none, 0, rfl, fun h => absurd rfl h, hl, Mod.refl _ _, fun ad h => by cases h⟩
  · rw [if_neg hn]
    refine (some_pos d g a c m n xs ls w hr hlen hl (by omega) (by omega)).mono ?_
    rintro e w' ⟨g', rfl, hg', hO, hL, hM⟩
    have hl' : ((shufOut xs ls).take m).length = m := by simp [shufOut_length]; omega
    exact ⟨some ⟨g', 0, none⟩, m, by rw [hl'], hO.rd.take m, hL, hM, fun ad h => by cases h; exact hg'⟩

theorem RefLots.made {w w2 : World} {a : Option Addr} {c : Nat} {ls : List Int} (hr : RdInts .u64 w a ls) (hx : ∀ x ∈ ls, 0 ≤ x ∧ x ≤ 18446744073709551615) (hl : ls.length < 4611686018427387904) (hm : Mod [] w w2) (t : TypeId) :
    RefLots (w2.alloc (.cells #[.slice a ls.length c, .int .i64 0] t)) w2.heap.size w.heap.size ls := by
  refine ⟨a, c, ls, 0, ?_, ?_, ?_, Nat.zero_le _, hl, fun hne => ?_, hx, hm.size, rfl⟩
  · simp
  · simp
  · simp
  · obtain ⟨ad, h1, h2, h3⟩ := hr hne
    obtain ⟨y, hy⟩ : ∃ y, ls[0]? = some y := ⟨_, List.getElem?_eq_getElem (List.length_pos_iff.2 hne)⟩
    have h0 := h3 0 y hy
    simp only [Addr.add, if_true] at h0
    have hs := World.cell?_spot h0
    obtain ⟨b, o, s⟩ := ad
    simp only at hs
    subst hs
    refine ⟨b, o, h1, h2, fun j x hj => ?_⟩
    have hc := h3 j x hj
    rw [add_lit] at hc
    exact (((hm.trans (Mod.refl _ _)).alloc _).cell_at hc (by simp))

/-- What a Helpers answers, and what is left. -/
def HelpAll (w : World) (d g : Nat) (ys ls' : List Int) (e : Ending) (w' : World) : Prop := ∃ a c, e = .returned (.slice a ys.length c) ∧ RdInts .i64 w' a ys ∧ LotsAt w' d g ls' ∧ Mod [d] w w' ∧ ∀ ad, a = some ad → w.heap.size ≤ ad.block

set_option maxHeartbeats 4000000 in
theorem helpers_all (d g : Nat) (a : Option Addr) (c m : Nat) (x n : Int) (xs ls ls' ys : List Int) (w : World) (hls : (if n < 1 then ls else shufLots (without x xs) ls) = ls') (hr : RdInts .i64 w a xs) (hnc : a = none → c = 0) (hl : xs.length ≤ 64) (hL : LotsAt w d g ls) (hm : (m : Int) = min (max n 0) (without x xs).length) (hy : (shufOut (without x xs) ls).take m = ys) :
    Calls Try.prog 12 #[.slice a xs.length c, .int .i64 x, .int .i64 n, .pointer (some ⟨d, 0, none⟩)] w (HelpAll w d g ys ls') := by
  have HLS := Lib.hid hls
  clear hls
  have HR := Lib.hid hr
  have HL := Lib.hid hL
  have HMM := Lib.hid hm
  have HY := Lib.hid hy
  have hmf : ∀ fn first cap w, (Instr.makeFunc fn first cap).run Try.prog w = .ok (.func fn first cap) w := fun _ _ _ _ => rfl
  clear hr hL hm hy
  go_enter Try.func12, Try.ntmps12
  go_wp2_with fail
  refine (clone_any a c xs _ (HR.out.alloc _) hnc (by omega)).mono ?_
  rintro e w1 ⟨v, rfl, hO, hM⟩
  have hp1 : w1.cell? ⟨w.heap.size, 0, none⟩ = some (.int .i64 x) := (hM.cell (by simp) (by simp)).trans (cell_in (heap_new _ _) rfl)
  have HDEL := Lib.hid (delete_own w.heap.size _ x xs v w1 hp1 (by simp) hO (by omega))
  have HM1 := Lib.hid (((Mod.refl [] w).alloc _).trans hM)
  have HS1 := Lib.hid (show w.heap.size < (w.alloc (.cells #[.int .i64 x] 3)).heap.size by simp)
  clear hO hM hp1
  go_wp2_with fail
  refine HDEL.out.mono ?_
  rintro e w2 ⟨a2, c2, rfl, hr2, hn2, hge2, S2, hM2, hS2⟩
  have HR2 := Lib.hid hr2
  have HM2 := Lib.hid (HM1.out.step hM2 (fun s hs => .inr (by have := hS2 s hs; have := HS1.out; omega)))
  have hlw : (without x xs).length ≤ 64 := Nat.le_trans (List.length_filter_le _ _) hl
  have HLW := Lib.hid hlw
  have HL2 := Lib.hid (HL.out.mod HM2.out (by simp) (by simp))
  clear hr2 hn2 hge2 hM2 hS2 hlw
  go_wp2_with fail
  refine (some_all d g a2 c2 m n (without x xs) ls ys _ HR2.out (by have := HLW.out; omega) HL2.out HMM.out HY.out).mono ?_
  rintro e w3 ⟨a3, c3, rfl, hr3, hL3, hM3, hbk⟩
  have HBK := Lib.hid (show ∀ ad, a3 = some ad → w.heap.size ≤ ad.block from fun ad h => Nat.le_trans HM2.out.size (hbk ad h))
  clear hbk
  have HR3 := Lib.hid hr3
  rw [HLS.out] at hL3
  have HL3 := Lib.hid hL3
  have HM3 := Lib.hid (show Mod [d] w w3 from (HM2.out.mono (T := [d]) (by simp)).trans hM3)
  clear hr3 hM3 hL3
  go_wp2_with fail
  go_ret
  exact ⟨a3, c3, rfl, HR3.out, HL3.out, HM3.out, HBK.out⟩

/-- What a reference's Helpers answers, and what is left. -/
def DHelpAll (w : World) (d B : Nat) (ys ls' : List Int) (e : Ending) (w' : World) : Prop := ∃ a c, e = .returned (.slice a ys.length c) ∧ RdInts .i64 w' a ys ∧ RefLots w' d B ls' ∧ Mod [d] w w'

set_option maxHeartbeats 4000000 in
theorem dhelpers_all (d B : Nat) (a : Option Addr) (c m : Nat) (x n : Int) (xs ls ls' ys : List Int) (w : World) (hls : (if n < 1 then ls else shufLots (without x xs) ls) = ls') (hr : RdInts .i64 w a xs) (hl : xs.length ≤ 64) (hL : RefLots w d B ls) (hm : (m : Int) = min (max n 0) (without x xs).length) (hy : (shufOut (without x xs) ls).take m = ys) :
    Calls Try.prog 13 #[.slice a xs.length c, .int .i64 x, .int .i64 n, .pointer (some ⟨d, 0, none⟩)] w (DHelpAll w d B ys ls') := by
  have HLS := Lib.hid hls
  clear hls
  have HR := Lib.hid hr
  have HL := Lib.hid hL
  have HMM := Lib.hid hm
  have HY := Lib.hid hy
  have hwl : ∀ k, (without x (xs.take k)).length ≤ 64 := fun k => by
    have h1 := List.length_filter_le (fun y => !(y == x)) (xs.take k)
    rw [List.length_take] at h1
    exact Nat.le_trans h1 (by omega)
  have HWL := Lib.hid hwl
  obtain ⟨q, hq⟩ : ∃ q, xs.length = q := ⟨_, rfl⟩
  have HQ := Lib.hid hq
  rw [hq] at hl ⊢
  clear hr hL hm hy hwl hq
  go_enter Try.func13, Try.ntmps13
  go_wp2_with fail
  go_loopw [9, 10] (fun v u wr => ∃ k : Nat, u = .int .i64 k ∧ k ≤ q ∧ Owned .i64 3 wr w.heap.size v (without x (xs.take k)) ∧ Mod [] w wr) (fun _ u _ => q - (intOf u).toNat)
  case atStart => exact ⟨0, rfl, Nat.zero_le _, Owned.empty _ (heap_new _ _) (Nat.le_refl _), (Mod.refl _ _).alloc _⟩
  case round =>
    obtain ⟨k, rfl, hk, hO, hM⟩ := hrel
    have HO := Lib.hid hO
    have HM := Lib.hid hM
    clear hO hM
    by_cases hlt : (k : Int) < (q : Int)
    · obtain ⟨z, hz⟩ : ∃ z, xs[k]? = some z := ⟨_, List.getElem?_eq_getElem (by have := HQ.out; omega)⟩
      obtain ⟨ad, rfl, _, hcx⟩ := (HR.out.mod HM.out (by simp)) (by intro h; rw [h] at hz; simp at hz)
      have cx := hcx k z hz
      have HZ := Lib.hid hz
      have HKQ := Lib.hid (show k + 1 ≤ q by omega)
      clear hcx hz
      by_cases hxk : z = x
      · have hq : (z != x) = false := by simpa using hxk
        have HWY := Lib.hid (without_yes (show xs[k]? = some x by rw [HZ.out, hxk]))
        clear hxk
        go_wp2_with fail
        go_roundw
        case rel => exact ⟨k + 1, by go_num, HKQ.out, by rw [HWY.out]; exact HO.out, HM.out⟩
        case measure => have := HKQ.out; simp [intOf]; omega
      · have hqn : (z != x) = true := by simpa using hxk
        have HWN := Lib.hid (without_no HZ.out (show (z == x) = false by simpa using hxk))
        clear hxk
        have b1 : (without x (xs.take k)).length + 1 ≤ maxLen := by have := HWL.out k; unfold maxLen; omega
        have b2 : ((without x (xs.take k)).length + 1) * 8 ≤ 140737488355328 := by have := HWL.out k; omega
        have b3 : w.heap.size ≤ (wr.alloc (.cells #[.int .i64 z] 3)).heap.size := by have := HM.out.size; simp; omega
        have B1 := Lib.hid b1
        have B2 := Lib.hid b2
        have B3 := Lib.hid b3
        clear b1 b2 b3
        go_wp2_with (at_builtin; with_reducible refine wpList_append_is rfl _ _ 26 rfl w.heap.size 3 .i64 8 Try.underlying26 Try.info_int _ (without x (xs.take k)) rfl (HO.out.mod ((Mod.refl [] _).alloc _) (by simp)) (some ⟨wr.heap.size, 0, none⟩) 1 1 [z] rfl rfl (RdInts.of_row (heap_new _ _)) nc_some B1.out B2.out B3.out ?o5)
        case o5 =>
          intro v' w2' hO2 hgr _
          rw [← HWN.out] at hO2
          have HO2 := Lib.hid hO2
          have HM2' := Lib.hid (grown_ge (HM.out.alloc _) hgr (fun b hb => (HO.out.own_ge b hb).1))
          clear hO2 hgr
          go_wp2_with fail
          go_roundw
          case rel => exact ⟨k + 1, by go_num, HKQ.out, HO2.out, HM2'.out⟩
          case measure => have := HKQ.out; simp [intOf]; omega
    · obtain rfl : k = q := by omega
      have hO := HO.out
      rw [List.take_of_length_le (by rw [HQ.out]; exact Nat.le_refl _)] at hO
      obtain ⟨a2, c2, rfl, hr2, hn2, _⟩ := hO.shape
      have HR2 := Lib.hid hr2
      have HN2 := Lib.hid hn2
      have HL2 := Lib.hid (HL.out.mod HM.out (by simp) (by simp))
      have hlw := HWL.out k
      rw [List.take_of_length_le (by rw [HQ.out]; exact Nat.le_refl _)] at hlw
      have HSM := Lib.hid (ksome_any d B a2 c2 m n (without x xs) ls ys _ HR2.out HN2.out (by omega) HL2.out HMM.out HY.out)
      rw [HLS.out] at HSM
      clear hO hr2 hn2 hlw
      go_wp2_with fail
      refine HSM.out.mono ?_
      rintro e w3 ⟨a3, c3, rfl, hr3, hL3, hM3⟩
      have HR3 := Lib.hid hr3
      have HL3 := Lib.hid hL3
      have HM3 := Lib.hid (show Mod [d] w w3 from (HM.out.mono (T := [d]) (by simp)).trans hM3)
      clear hr3 hM3 hL3
      go_wp2_with fail
      go_ret
      exact ⟨a3, c3, rfl, HR3.out, HL3.out, HM3.out⟩

theorem helpers_is (d g : Nat) (a : Option Addr) (c m q : Nat) (x n : Int) (xs ls ls' ys : List Int) (w : World) (hq : xs.length = q) (hls : (if n < 1 then ls else shufLots (without x xs) ls) = ls') (hr : RdInts .i64 w a xs) (hnc : a = none → c = 0) (hl : xs.length ≤ 64) (hL : LotsAt w d g ls) (hm : (m : Int) = min (max n 0) (without x xs).length) (hy : (shufOut (without x xs) ls).take m = ys) :
    Calls Try.prog 12 #[.slice a q c, .int .i64 x, .int .i64 n, .pointer (some ⟨d, 0, none⟩)] w (HelpAll w d g ys ls') := by
  subst hq
  exact helpers_all d g a c m x n xs ls ls' ys w hls hr hnc hl hL hm hy
theorem dhelpers_is (d B : Nat) (a : Option Addr) (c m q : Nat) (x n : Int) (xs ls ls' ys : List Int) (w : World) (hq : xs.length = q) (hls : (if n < 1 then ls else shufLots (without x xs) ls) = ls') (hr : RdInts .i64 w a xs) (hl : xs.length ≤ 64) (hL : RefLots w d B ls) (hm : (m : Int) = min (max n 0) (without x xs).length) (hy : (shufOut (without x xs) ls).take m = ys) :
    Calls Try.prog 13 #[.slice a q c, .int .i64 x, .int .i64 n, .pointer (some ⟨d, 0, none⟩)] w (DHelpAll w d B ys ls') := by
  subst hq
  exact dhelpers_all d B a c m x n xs ls ls' ys w hls hr hl hL hm hy

end Go.Proofs.Ytnapboojfhojjaa
