/-
  The walks of lot.Some and of round.Helpers.
-/
import Derived.Test.YtnapboojfhojjaaRndI
import Derived.Test.YtnapboojfhojjaaRndA
import Derived.Test.YtnapboojfhojjaaRndP
namespace Go.Proofs.Ytnapboojfhojjaa
open Go.RowKit

theorem OwnInts.rd {w : World} {g : Nat} {xs : List Int} (h : OwnInts w g xs) : RdInts .i64 w (some ⟨g, 0, none⟩) xs := RdInts.of_row h

theorem shufLoop_lots : ∀ (i : Nat) (out ls : List Int), (shufLoop i out ls).2 = ls.drop i
  | 0, _, _ => rfl
  | i + 1, out, ls => by
    rw [shufLoop, shufLoop_lots i]
    unfold lotRest
    rw [if_neg (by omega), List.drop_tail]
theorem shufLots_eq (xs ls : List Int) : shufLots xs ls = ls.drop (xs.length - 1) := shufLoop_lots _ _ _

/-- What Some answers, with n above 0. -/
def SomePost (w : World) (d g : Nat) (xs ls : List Int) (m : Nat) (e : Ending) (w' : World) : Prop :=
  ∃ g', e = .returned (.slice (some ⟨g', 0, none⟩) m m) ∧ w.heap.size ≤ g' ∧ OwnInts w' g' (shufOut xs ls) ∧ LotsAt w' d g (shufLots xs ls) ∧ Mod [d] w w'

set_option maxHeartbeats 1000000 in
theorem some_zero (p l : Value) (n : Int) (w : World) (hn : n < 1) :
    Calls Try.prog 31 #[p, l, .int .i64 n] w fun e w' => e = .returned (.slice none 0 0) ∧ w = w' := by
  go_enter Try.func31, Try.ntmps31
  go_wp2
  go_ret
  exact ⟨rfl, rfl⟩

theorem some_end {w w1 : World} {d g g' m k : Nat} {xs ls : List Int} (hk : k = m) (h1 : w.heap.size ≤ g') (h2 : OwnInts w1 g' (shufLoop (xs.length - 1) xs ls).1) (h3 : LotsAt w1 d g (shufLoop (xs.length - 1) xs ls).2) (h4 : Mod [d] w w1) :
    SomePost w d g xs ls m (.returned (.slice (some ⟨g', 0, none⟩) k k)) w1 := by
  subst hk
  exact ⟨g', rfl, h1, h2, h3, h4⟩

set_option maxHeartbeats 1000000 in
theorem some_pos (d g : Nat) (a : Option Addr) (c m : Nat) (n : Int) (xs ls : List Int) (w : World) (hr : RdInts .i64 w a xs) (hlen : xs.length * 8 ≤ 140737488351232) (hl : LotsAt w d g ls) (hn : 1 ≤ n) (hm : (m : Int) = min n xs.length) :
    Calls Try.prog 31 #[.pointer (some ⟨d, 0, none⟩), .slice a xs.length c, .int .i64 n] w (SomePost w d g xs ls m) := by
  have HM := Lib.hid hm
  have HL := Lib.hid hlen
  have hn2 : xs.length < 4611686018427387904 := by omega
  clear hm hlen
  go_enter Try.func31, Try.ntmps31
  go_wp2_with fail
  refine (shuffle_any d g a c xs ls _ hr HL.out hl).mono ?_
  rintro e w1 ⟨g', rfl, hg', hO, hL, hM⟩
  have HO := Lib.hid hO
  have HLO := Lib.hid hL
  have HMO := Lib.hid hM
  clear hO hL hM hr hl
  go_wp2
  all_goals
    go_ret
    have hk := HM.out
    refine some_end ?_ hg' HO.out HLO.out HMO.out
    omega

theorem RdInts.take {k : IntKind} {w : World} {a : Option Addr} {xs : List Int} (h : RdInts k w a xs) (m : Nat) : RdInts k w a (xs.take m) := by
  intro hx
  obtain ⟨ad, h1, h2, h3⟩ := h (by intro e; rw [e] at hx; simp at hx)
  refine ⟨ad, h1, h2, fun j x hj => h3 j x ?_⟩
  have hjm : j < m := by
    have := (List.getElem?_eq_some_iff.1 hj).1
    simp at this; omega
  rwa [List.getElem?_take_of_lt hjm] at hj

/-- What Some answers, as a list that is read. -/
def SomeRd (w : World) (d : Nat) (ys : List Int) (e : Ending) (w' : World) : Prop := ∃ a c, e = .returned (.slice a ys.length c) ∧ RdInts .i64 w' a ys ∧ Mod [d] w w'

theorem some_rd (d g : Nat) (a : Option Addr) (c m : Nat) (n : Int) (xs ls ys : List Int) (w : World) (hr : RdInts .i64 w a xs) (hlen : xs.length * 8 ≤ 140737488351232) (hl : LotsAt w d g ls) (hm : (m : Int) = min (max n 0) xs.length) (hy : (shufOut xs ls).take m = ys) :
    Calls Try.prog 31 #[.pointer (some ⟨d, 0, none⟩), .slice a xs.length c, .int .i64 n] w (SomeRd w d ys) := by
  subst hy
  by_cases hn : n < 1
  · refine (some_zero _ _ n w hn).mono ?_
    rintro e w' ⟨rfl, rfl⟩
    obtain rfl : m = 0 := by omega
    exact ⟨none, 0, rfl, fun h => absurd rfl h, Mod.refl _ _⟩
  · refine (some_pos d g a c m n xs ls w hr hlen hl (by omega) (by omega)).mono ?_
    rintro e w' ⟨g', rfl, _, hO, _, hM⟩
    have hl' : ((shufOut xs ls).take m).length = m := by simp [shufOut_length]; omega
    exact ⟨some ⟨g', 0, none⟩, m, by rw [hl'], hO.rd.take m, hM⟩


theorem owned_cases {e : TypeId} {w : World} {B : Nat} {v : Value} {xs : List Int} (h : Owned .i64 e w B v xs) :
    (v = .slice none 0 0 ∧ xs = []) ∨ ∃ g c, v = .slice (some ⟨g, 0, none⟩) xs.length c ∧ B ≤ g ∧ g < w.heap.size ∧ (∀ t y, xs[t]? = some y → w.cell? ⟨g, t, none⟩ = some (.int .i64 y)) ∧ (∀ t, w.frozen? ⟨g, t, none⟩ = false) ∧ xs.length ≤ c ∧ c ≤ maxLen := by
  obtain ⟨hl, h⟩ := h
  rcases h with ⟨rfl, h0⟩ | ⟨g, cap, cur, rfl, hB, hg, h1, h2, h3, h4⟩
  · exact .inl ⟨rfl, List.eq_nil_of_length_eq_zero h0⟩
  · refine .inr ⟨g, cap, rfl, hB, (Array.getElem?_eq_some_iff.1 hg).1, fun t y hy => ?_, fun t => free_in hg, h1, h2⟩
    have e1 : (cur.toList.take (xs.length * 1))[t]? = some (Value.int .i64 y) := by rw [h4]; simp [hy]
    have hjl : t < xs.length := (List.getElem?_eq_some_iff.1 hy).1
    rw [List.getElem?_take_of_lt (by omega)] at e1
    simp only [World.cell?, hg]
    simpa using e1

set_option maxHeartbeats 1000000 in
theorem delete_nil (p B : Nat) (x : Int) (w : World) (hp : w.cell? ⟨p, 0, none⟩ = some (.int .i64 x)) :
    Calls Try.prog 28 #[.slice none 0 0, .func (.func 30) #[] #[.pointer (some ⟨p, 0, none⟩)]] w (DelPost w B []) := by
  have HIDX := Lib.hid (indexdel_any p x none 0 [] w hp (fun h => absurd rfl h) (by decide))
  clear hp
  go_enter Try.func28, Try.ntmps28
  go_wp2_with fail
  refine HIDX.out.mono ?_
  rintro e w1 ⟨⟨i, rfl, hi⟩, rfl⟩
  rcases hi with ⟨rfl, hno⟩ | ⟨k, rfl, hk, hno⟩
  · go_wp2_with fail
    go_ret
    exact ⟨none, 0, rfl, fun h => absurd rfl h, fun _ => rfl, fun ad h => (by cases h), [], Mod.refl _ _, by simp⟩
  · simp at hk

theorem delete_own (p B : Nat) (x : Int) (xs : List Int) (v : Value) (w : World) (hp : w.cell? ⟨p, 0, none⟩ = some (.int .i64 x)) (hpB : p < B) (h : Owned .i64 3 w B v xs) (hl : xs.length ≤ 1000000) :
    Calls Try.prog 28 #[v, .func (.func 30) #[] #[.pointer (some ⟨p, 0, none⟩)]] w (DelPost w B (without x xs)) := by
  rcases owned_cases h with ⟨rfl, rfl⟩ | ⟨g, c, rfl, hB, hlt, hc, hf, h1, h2⟩
  · exact delete_nil p B x w hp
  · exact delete_some p g c B x xs w hp (by omega) hB hc hf hlt h1 h2 hl

def HelpPost (w : World) (ys : List Int) (e : Ending) (w' : World) : Prop := ∃ a c, e = .returned (.slice a ys.length c) ∧ RdInts .i64 w' a ys

set_option maxHeartbeats 4000000 in
theorem helpers_any (d g : Nat) (a : Option Addr) (c m : Nat) (x n : Int) (xs ls ys : List Int) (w : World) (hr : RdInts .i64 w a xs) (hnc : a = none → c = 0) (hl : xs.length ≤ 64) (hL : LotsAt w d g ls) (hm : (m : Int) = min (max n 0) (without x xs).length) (hy : (shufOut (without x xs) ls).take m = ys) :
    Calls Try.prog 12 #[.slice a xs.length c, .int .i64 x, .int .i64 n, .pointer (some ⟨d, 0, none⟩)] w fun e w' => HelpPost w ys e w' ∧ Mod [d] w w' := by
  have HR := Lib.hid hr
  have HL := Lib.hid hL
  have HMM := Lib.hid hm
  have HY := Lib.hid hy
  have hmf : ∀ fn first cap w, (Instr.makeFunc fn first cap).run Try.prog w = .ok (.func fn first cap) w := fun _ _ _ _ => rfl
  clear hr hL hm hy
  go_enter Try.func12, Try.ntmps12
  go_wp2_with fail
  refine (clone_any a c xs _ (HR.out.alloc _) hnc (by omega)).mono ?_
  rintro e w1 ⟨v, rfl, hO, hM⟩
  have hp1 : w1.cell? ⟨w.heap.size, 0, none⟩ = some (.int .i64 x) := (hM.cell (by simp) (by simp)).trans (cell_in (heap_new _ _) rfl)
  have HDEL := Lib.hid (delete_own w.heap.size _ x xs v w1 hp1 (by simp) hO (by omega))
  have HM1 := Lib.hid (((Mod.refl [] w).alloc _).trans hM)
  have HS1 := Lib.hid (show w.heap.size < (w.alloc (.cells #[.int .i64 x] 3)).heap.size by simp)
  clear hO hM hp1
  go_wp2_with fail
  refine HDEL.out.mono ?_
  rintro e w2 ⟨a2, c2, rfl, hr2, hn2, hge2, S2, hM2, hS2⟩
  have HR2 := Lib.hid hr2
  have HM2 := Lib.hid (HM1.out.step hM2 (fun s hs => .inr (by have := hS2 s hs; have := HS1.out; omega)))
  have hlw : (without x xs).length ≤ 64 := Nat.le_trans (List.length_filter_le _ _) hl
  have HLW := Lib.hid hlw
  have HL2 := Lib.hid (HL.out.mod HM2.out (by simp) (by simp))
  clear hr2 hn2 hge2 hM2 hS2 hlw
  go_wp2_with fail
  refine (some_rd d g a2 c2 m n (without x xs) ls ys _ HR2.out (by have := HLW.out; omega) HL2.out HMM.out HY.out).mono ?_
  rintro e w3 ⟨a3, c3, rfl, hr3, hM3⟩
  have HR3 := Lib.hid hr3
  have HM3 := Lib.hid (show Mod [d] w w3 from (HM2.out.mono (T := [d]) (by simp)).trans hM3)
  clear hr3 hM3
  go_wp2_with fail
  go_ret
  exact ⟨⟨a3, c3, rfl, HR3.out⟩, HM3.out⟩

end Go.Proofs.Ytnapboojfhojjaa
