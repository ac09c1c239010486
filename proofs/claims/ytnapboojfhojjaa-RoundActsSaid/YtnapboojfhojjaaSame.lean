/-
  The walk of conventicleref03.Same.
-/
import Derived.Test.YtnapboojfhojjaaBase
namespace Go.Proofs.Ytnapboojfhojjaa
open Go.RowKit

def SamePost (w : World) (b : Bool) (e : Ending) (w' : World) : Prop := e = .returned (.bool b) ∧ ∃ n, w' = w.drewN n

theorem RdInts.drewN {k : IntKind} {w : World} {a : Option Addr} {xs : List Int} (h : RdInts k w a xs) (n : Nat) : RdInts k (w.drewN n) a xs := h

def SameRel (w : World) (xs ys : List Int) (v : Value) (wr : World) : Prop :=
  ∃ k : Nat, v = .int .i64 k ∧ k ≤ xs.length ∧ (∀ j, j < k → xs[j]? = ys[j]?) ∧ ∃ n, wr = w.drewN n

set_option maxHeartbeats 1000000 in
theorem same_eqlen (a b : Option Addr) (c d : Nat) (xs ys : List Int) (w : World) (ha : RdInts .i64 w a xs) (hb : RdInts .i64 w b ys) (hn : xs.length < 4611686018427387904) (hl : ys.length = xs.length) :
    Calls Try.prog 11 #[.slice a xs.length c, .slice b ys.length d] w (SamePost w (decide (xs = ys))) := by
  have HL := Lib.hid hl
  have HA := Lib.hid ha
  have HB := Lib.hid hb
  rw [hl]
  have hne : ((xs.length : Int) != (xs.length : Int)) = false := by simp
  clear hl ha hb
  go_enter Try.func11, Try.ntmps11
  go_wp2
  go_loopw [5] (fun v wr => SameRel w xs ys v wr) (fun v _ => xs.length - (intOf v).toNat)
  case atStart => exact ⟨0, rfl, Nat.zero_le _, fun j hj => absurd hj (Nat.not_lt_zero _), 0, rfl⟩
  case round =>
    obtain ⟨k, rfl, hk, heq, n, rfl⟩ := hrel
    have HEQ := Lib.hid heq
    clear heq
    by_cases hlt : k < xs.length
    · obtain ⟨ad, rfl, _, hxs⟩ := HA.out (by intro h; rw [h] at hlt; simp at hlt)
      obtain ⟨bd, rfl, _, hys⟩ := HB.out (by intro h; have := HL.out; rw [h] at this; simp at this; omega)
      obtain ⟨x, hx⟩ : ∃ x, xs[k]? = some x := ⟨_, List.getElem?_eq_getElem hlt⟩
      obtain ⟨y, hy⟩ : ∃ y, ys[k]? = some y := ⟨_, List.getElem?_eq_getElem (by rw [HL.out]; exact hlt)⟩
      have cx := hxs k x hx
      have cy := hys k y hy
      have HX := Lib.hid hx
      have HY := Lib.hid hy
      clear hxs hys hx hy
      by_cases hxy : x = y
      · subst hxy
        have hxx : (x != x) = false := by simp
        go_wp2_with fail
        go_region
        go_wp2
        go_roundw
        case rel =>
          refine ⟨k + 1, by go_num, by omega, fun j hj => ?_, n + 1, rfl⟩
          rcases Nat.lt_or_ge j k with h | h
          · exact HEQ.out j h
          · obtain rfl : j = k := by omega
            rw [HX.out, HY.out]
        case measure => simp [intOf]; omega
      · have hxx : (x != y) = true := by simpa using hxy
        go_wp2_with fail
        go_region
        go_wp2
        go_ret
        refine ⟨?_, n + 1, rfl⟩
        have hne' : xs ≠ ys := by
          intro h
          have h1 := HX.out
          rw [h, HY.out] at h1
          exact hxy (Option.some.inj h1).symm
        simp [hne']
    · go_wp2
      go_ret
      refine ⟨?_, n, rfl⟩
      have heq' : xs = ys := List.ext_getElem? fun j => by
        rcases Nat.lt_or_ge j k with h | h
        · exact HEQ.out j h
        · rw [List.getElem?_eq_none (by omega), List.getElem?_eq_none (by rw [HL.out]; omega)]
      simp [heq']

set_option maxHeartbeats 1000000 in
theorem same_neqlen (a b : Option Addr) (c d n m : Nat) (w : World) (hl : ¬ (n = m)) :
    Calls Try.prog 11 #[.slice a n c, .slice b m d] w (SamePost w false) := by
  have hne : ((n : Int) != (m : Int)) = true := by rw [bne_iff_ne]; omega
  have HL := Lib.hid hl
  clear hl
  go_enter Try.func11, Try.ntmps11
  go_wp2
  go_ret
  exact ⟨rfl, 0, rfl⟩

theorem same_any (a b : Option Addr) (c d : Nat) (xs ys : List Int) (w : World) (ha : RdInts .i64 w a xs) (hb : RdInts .i64 w b ys) (hn : xs.length < 4611686018427387904) :
    Calls Try.prog 11 #[.slice a xs.length c, .slice b ys.length d] w (SamePost w (decide (xs = ys))) := by
  by_cases hl : ys.length = xs.length
  · exact same_eqlen a b c d xs ys w ha hb hn hl
  · have hne : decide (xs = ys) = false := by
      simp
      intro h
      exact hl (by rw [h])
    rw [hne]
    exact same_neqlen a b c d xs.length ys.length w (fun h => hl h.symm)

theorem same_is (a b : Option Addr) (c d n m : Nat) (xs ys : List Int) (w : World) (hn : n = xs.length) (hm : m = ys.length) (ha : RdInts .i64 w a xs) (hb : RdInts .i64 w b ys) (hl : xs.length < 4611686018427387904) :
    Calls Try.prog 11 #[.slice a n c, .slice b m d] w (SamePost w (decide (xs = ys))) := by
  subst hn
  subst hm
  exact same_any a b c d xs ys w ha hb hl

end Go.Proofs.Ytnapboojfhojjaa
