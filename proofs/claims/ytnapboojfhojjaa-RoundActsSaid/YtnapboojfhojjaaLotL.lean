/-
  The walk of package lot: Left.
-/
import Derived.Test.YtnapboojfhojjaaLotA
namespace Go.Proofs.Ytnapboojfhojjaa
open Go.RowKit

set_option maxHeartbeats 400000 in
theorem left_any (d g : Nat) (xs : List Int) (w : World) (h : LotsAt w d g xs) :
    Calls Try.prog 14 #[.pointer (some ⟨d, 0, none⟩)] w fun e w' => e = .returned (.int .i64 xs.length) ∧ w = w' := by
  obtain ⟨a, c, off, h1, h2, h3, h4, h5, h6, h7, h8, h9⟩ := h
  clear h2 h4 h5 h6 h7 h8 h9
  go_enter Try.func14, Try.ntmps14
  go_wp2
  go_ret
  exact ⟨rfl, rfl⟩

theorem left_is (d g m : Nat) (xs : List Int) (w : World) (h : LotsAt w d g xs) (hm : xs.length = m) :
    Calls Try.prog 14 #[.pointer (some ⟨d, 0, none⟩)] w fun e w' => e = .returned (.int .i64 (m : Int)) ∧ w = w' :=
  hm ▸ left_any d g xs w h

end Go.Proofs.Ytnapboojfhojjaa
