/-
  The walk of conventiclelaw03.shown; lot.Some.
-/
import Derived.Test.YtppgeoimaleomaaLotB
import Derived.Test.YtppgeoimaleomaaSame
namespace Go.Proofs.Ytppgeoimaleomaa
open Go.RowKit

theorem OwnInts.rd {w : World} {g : Nat} {xs : List Int} (h : OwnInts w g xs) : RdInts .i64 w (some ⟨g, 0, none⟩) xs := by
  intro _
  refine ⟨_, rfl, (Array.getElem?_eq_some_iff.1 h).1, fun j x hj => ?_⟩
  have hj' : j < xs.length := (List.getElem?_eq_some_iff.1 hj).1
  rw [add_lit, Nat.zero_add, h.cell hj']
  simp [List.getD, hj]

theorem RdInts.of_row {k : IntKind} {w : World} {g : Nat} {xs : List Int} {t : TypeId} (h : w.heap[g]? = some (.cells (xs.map (Value.int k)).toArray t (0, 0))) : RdInts k w (some ⟨g, 0, none⟩) xs := by
  intro _
  refine ⟨_, rfl, (Array.getElem?_eq_some_iff.1 h).1, fun j x hj => ?_⟩
  rw [add_lit, Nat.zero_add]
  simp [World.cell?, h, hj]

theorem RdInts.mod {k : IntKind} {w w' : World} {S : List Nat} {a : Option Addr} {xs : List Int} (h : RdInts k w a xs) (hm : Mod S w w') (hs : ∀ ad, a = some ad → ad.block ∉ S) : RdInts k w' a xs := by
  intro hx
  obtain ⟨ad, h1, h2, h3⟩ := h hx
  refine ⟨ad, h1, Nat.lt_of_lt_of_le h2 hm.size, fun j x hj => ?_⟩
  rw [World.cell?_of_block (w := w) (hm.block _ (by rw [add_block]; exact h2) (by rw [add_block]; exact hs ad h1))]
  exact h3 j x hj

theorem RdInts.mod' {k : IntKind} {w w' : World} {S : List Nat} {a : Option Addr} {xs : List Int} (h : RdInts k w a xs) (hm : Mod S w w') (hs : ∀ s ∈ S, w.heap.size ≤ s) : RdInts k w' a xs := by
  intro hx
  obtain ⟨ad, h1, h2, h3⟩ := h hx
  refine ⟨ad, h1, Nat.lt_of_lt_of_le h2 hm.size, fun j x hj => ?_⟩
  rw [World.cell?_of_block (w := w) (hm.block _ (by rw [add_block]; exact h2) (by rw [add_block]; intro hh; have := hs _ hh; omega))]
  exact h3 j x hj

/-- True, and nothing that was there has turned. -/
def TruePost (w : World) (e : Ending) (w' : World) : Prop := e = .returned (.bool true) ∧ Mod [] w w'

set_option maxHeartbeats 1000000 in
theorem shown03 (w : World) : Calls Try.prog 4 #[] w (TruePost w) := by
  go_enter Try.func4, Try.ntmps4
  go_wp2_with fail
  refine (new_any (some ⟨w.heap.size, 0, none⟩) 2 [0, 0] _ (RdInts.of_row (heap_new _ _)) (by decide) (by decide)).mono ?_
  rintro e w1 ⟨d, g, rfl, hd, hg, hL, hM⟩
  have HL := Lib.hid hL
  have HM := Lib.hid (((Mod.refl [] w).alloc _).trans hM)
  have hd1 : w.heap.size ≤ d := by simp at hd; omega
  clear hL hM hd hg
  go_wp2_with fail
  refine (shuffle_any d g (some ⟨w1.heap.size, 0, none⟩) 3 [1, 2, 3] [0, 0] _ (RdInts.of_row (heap_new _ _)) (by decide) (HL.out.mod ((Mod.refl [] _).alloc _) (by simp) (by simp))).mono ?_
  rintro e w2 ⟨o, rfl, ho, hO, hL2, hM2⟩
  have HO := Lib.hid (show OwnInts w2 o [2, 3, 1] from hO)
  have HM2 := Lib.hid (HM.out.step (((Mod.refl [d] w1).alloc _).trans hM2) (by simpa using hd1))
  clear hO hL2 hM2 ho
  go_wp2_with fail
  refine (same_any (some ⟨o, 0, none⟩) (some ⟨w2.heap.size, 0, none⟩) 3 3 [2, 3, 1] [2, 3, 1] _ (HO.out.rd.alloc _) (RdInts.of_row (heap_new _ _)) (by decide)).mono ?_
  rintro e w3 ⟨rfl, n, rfl⟩
  rw [show decide (([2, 3, 1] : List Int) = [2, 3, 1]) = true from rfl]
  go_wp2_with fail
  refine (new_any (some ⟨w2.heap.size + 1, 0, none⟩) 1 [7] _ (RdInts.of_row (g := w2.heap.size + 1) (t := 32) (heap_at _ _ _ (by simp))) (by decide) (by decide)).mono ?_
  rintro e w3 ⟨d', g', rfl, hd, hg, hL, hM⟩
  have HL' := Lib.hid hL
  have HM3 := Lib.hid hM
  clear hL hM hg
  go_wp2_with fail
  refine (next_any d' g' [7] _ HL'.out).mono ?_
  rintro e w4 ⟨rfl, hL, hM⟩
  go_wp2_with fail
  go_ret
  have hs2 := HM2.out.size
  have hdd : w2.heap.size ≤ d' := by simp at hd; omega
  exact ⟨rfl, ((((HM2.out.alloc _).drewN n).alloc _).trans HM3.out).step hM (by simp; omega)⟩

def shufOut (xs ls : List Int) : List Int := (shufLoop (xs.length - 1) xs ls).1
def shufLots (xs ls : List Int) : List Int := (shufLoop (xs.length - 1) xs ls).2

theorem shufLoop_length : ∀ (i : Nat) (out ls : List Int), (shufLoop i out ls).1.length = out.length
  | 0, _, _ => rfl
  | i + 1, out, ls => by rw [shufLoop, shufLoop_length i]; simp [swapAt]
theorem shufOut_length (xs ls : List Int) : (shufOut xs ls).length = xs.length := shufLoop_length _ _ _

theorem shufLoop_lots : ∀ (i : Nat) (out ls : List Int), (shufLoop i out ls).2 = ls.drop i
  | 0, _, _ => rfl
  | i + 1, out, ls => by
    rw [shufLoop, shufLoop_lots i]
    unfold lotRest
    rw [if_neg (by omega), List.drop_tail]
theorem shufLots_eq (xs ls : List Int) : shufLots xs ls = ls.drop (xs.length - 1) := shufLoop_lots _ _ _

/-- What Some answers, with n above 0. -/
def SomePost (w : World) (d g : Nat) (xs ls : List Int) (m : Nat) (e : Ending) (w' : World) : Prop :=
  ∃ g', e = .returned (.slice (some ⟨g', 0, none⟩) m m) ∧ w.heap.size ≤ g' ∧ OwnInts w' g' (shufOut xs ls) ∧ LotsAt w' d g (shufLots xs ls) ∧ Mod [d] w w'

set_option maxHeartbeats 1000000 in
theorem some_zero (p l : Value) (n : Int) (w : World) (hn : n < 1) :
    Calls Try.prog 13 #[p, l, .int .i64 n] w fun e w' => e = .returned (.slice none 0 0) ∧ w = w' := by
  go_enter Try.func13, Try.ntmps13
  go_wp2
  go_ret
  exact ⟨rfl, rfl⟩

theorem some_end {w w1 : World} {d g g' m k : Nat} {xs ls : List Int} (hk : k = m) (h1 : w.heap.size ≤ g') (h2 : OwnInts w1 g' (shufLoop (xs.length - 1) xs ls).1) (h3 : LotsAt w1 d g (shufLoop (xs.length - 1) xs ls).2) (h4 : Mod [d] w w1) :
    SomePost w d g xs ls m (.returned (.slice (some ⟨g', 0, none⟩) k k)) w1 := by
  subst hk
  exact ⟨g', rfl, h1, h2, h3, h4⟩

set_option maxHeartbeats 1000000 in
theorem some_pos (d g : Nat) (a : Option Addr) (c m : Nat) (n : Int) (xs ls : List Int) (w : World) (hr : RdInts .i64 w a xs) (hlen : xs.length * 8 ≤ 140737488351232) (hl : LotsAt w d g ls) (hn : 1 ≤ n) (hm : (m : Int) = min n xs.length) :
    Calls Try.prog 13 #[.pointer (some ⟨d, 0, none⟩), .slice a xs.length c, .int .i64 n] w (SomePost w d g xs ls m) := by
  have HM := Lib.hid hm
  have HL := Lib.hid hlen
  have hn2 : xs.length < 4611686018427387904 := by omega
  clear hm hlen
  go_enter Try.func13, Try.ntmps13
  go_wp2_with fail
  refine (shuffle_any d g a c xs ls _ hr HL.out hl).mono ?_
  rintro e w1 ⟨g', rfl, hg', hO, hL, hM⟩
  have HO := Lib.hid hO
  have HLO := Lib.hid hL
  have HMO := Lib.hid hM
  clear hO hL hM hr hl
  go_wp2
  all_goals
    go_ret
    have hk := HM.out
    refine some_end ?_ hg' HO.out HLO.out HMO.out
    omega

theorem RdInts.take {k : IntKind} {w : World} {a : Option Addr} {xs : List Int} (h : RdInts k w a xs) (m : Nat) : RdInts k w a (xs.take m) := by
  intro hx
  obtain ⟨ad, h1, h2, h3⟩ := h (by intro e; rw [e] at hx; simp at hx)
  refine ⟨ad, h1, h2, fun j x hj => h3 j x ?_⟩
  have hjm : j < m := by
    have := (List.getElem?_eq_some_iff.1 hj).1
    simp at this; omega
  rwa [List.getElem?_take_of_lt hjm] at hj

/-- What Some answers, as a list that is read. -/
def SomeRd (w : World) (d : Nat) (ys : List Int) (e : Ending) (w' : World) : Prop := ∃ a c, e = .returned (.slice a ys.length c) ∧ RdInts .i64 w' a ys ∧ Mod [d] w w'

theorem some_rd (d g : Nat) (a : Option Addr) (c m : Nat) (n : Int) (xs ls ys : List Int) (w : World) (hr : RdInts .i64 w a xs) (hlen : xs.length * 8 ≤ 140737488351232) (hl : LotsAt w d g ls) (hm : (m : Int) = min (max n 0) xs.length) (hy : (shufOut xs ls).take m = ys) :
    Calls Try.prog 13 #[.pointer (some ⟨d, 0, none⟩), .slice a xs.length c, .int .i64 n] w (SomeRd w d ys) := by
  subst hy
  by_cases hn : n < 1
  · refine (some_zero _ _ n w hn).mono ?_
    rintro e w' ⟨rfl, rfl⟩
    obtain rfl : m = 0 := by omega
    exact ⟨none, 0, rfl, fun h => absurd rfl h, Mod.refl _ _⟩
  · refine (some_pos d g a c m n xs ls w hr hlen hl (by omega) (by omega)).mono ?_
    rintro e w' ⟨g', rfl, _, hO, _, hM⟩
    have hl' : ((shufOut xs ls).take m).length = m := by simp [shufOut_length]; omega
    exact ⟨some ⟨g', 0, none⟩, m, by rw [hl'], hO.rd.take m, hM⟩

end Go.Proofs.Ytppgeoimaleomaa
