/-
  The walk of conventicleref18.Same at two slices that hold the same messages.
-/
import Derived.Test.YtkafejbfhmolhaaMsgs
namespace Go.Proofs.Ytkafejbfhmolhaa
open Go.RowKit

theorem drewN_heap (w : World) (n : Nat) : (w.drewN n).heap = w.heap := rfl

set_option maxRecDepth 100000 in
set_option maxHeartbeats 4000000 in
theorem same_eq (L : List M) (a b : Option Addr) (c c2 : Nat) (w : World) (ha : RdMs w a L) (hb : RdMs w b L) (hl : L.length ≤ 1000000) :
    Calls Try.prog 12 #[.slice a L.length c, .slice b L.length c2] w fun e w' => e = .returned (.bool true) ∧ ∃ m, w' = w.drewN m := by
  have HA := Lib.hid ha
  have HB := Lib.hid hb
  clear ha hb
  go_enter Try.func12, Try.ntmps12
  go_wp2_with fail
  go_loopw [5] (fun v wr => ∃ k : Nat, v = .int .i64 k ∧ k ≤ L.length ∧ ∃ m, wr = w.drewN m) (fun v _ => L.length - (intOf v).toNat)
  case atStart => exact ⟨0, rfl, Nat.zero_le _, 0, rfl⟩
  case round =>
    obtain ⟨k, rfl, hk, q, rfl⟩ := hrel
    by_cases hlt : (k : Int) < L.length
    · have hlt' : k < L.length := by omega
      have hne : L ≠ [] := by intro h; rw [h] at hlt'; simp at hlt'
      obtain ⟨g, o, rfl, _, hr⟩ := HA.out hne
      obtain ⟨g2, o2, rfl, _, hr2⟩ := HB.out hne
      obtain ⟨⟨s, n, t⟩, hm⟩ : ∃ m, L[k]? = some m := ⟨_, List.getElem?_eq_getElem hlt'⟩
      have h1 := RdMs.at hr hm
      have h2 := RdMs.at hr2 hm
      have x0 : w.cell? ⟨g, o + k * 3, none⟩ = some (.int .i64 s) := h1 0 _ rfl
      have x1 : w.cell? ⟨g, o + k * 3 + 1, none⟩ = some (.int .u64 n) := h1 1 _ rfl
      have x2 : w.cell? ⟨g, o + k * 3 + 2, none⟩ = some (.string t) := h1 2 _ rfl
      have y0 : w.cell? ⟨g2, o2 + k * 3, none⟩ = some (.int .i64 s) := h2 0 _ rfl
      have y1 : w.cell? ⟨g2, o2 + k * 3 + 1, none⟩ = some (.int .u64 n) := h2 1 _ rfl
      have y2 : w.cell? ⟨g2, o2 + k * 3 + 2, none⟩ = some (.string t) := h2 2 _ rfl
      clear hr hr2 hm h1 h2 hne
      go_wp2_with fail
      go_quiet (fail)
      go_wp2_with fail
      go_roundw
      case rel => exact ⟨k + 1, by go_num, by omega, _, rfl⟩
      case measure => simp [intOf]; omega
    · go_wp2_with fail
      go_ret
      exact ⟨rfl, q, rfl⟩

end Go.Proofs.Ytkafejbfhmolhaa
