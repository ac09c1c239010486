/-
  The walk of order's Clerk: Next.
-/
import Derived.Test.YtjeonlpojkajcaaClerk
namespace Go.Proofs.Ytjeonlpojkajcaa
open Go.RowKit

set_option maxHeartbeats 1000000 in
theorem cnext_any (d m sz : Nat) (nx : Int) (f : Int → Option Int) (w : World) (h : ClerkAt w d m nx f sz) :
    Calls Try.prog 10 #[.pointer (some ⟨d, 0, none⟩)] w fun e w' => e = .returned (.int .u64 nx) ∧ w = w' := by
  obtain ⟨h1, h2, h3, h4, h5, h6, h7⟩ := h
  clear h2 h3 h5 h6 h7
  go_enter Try.func10, Try.ntmps10
  go_wp2
  go_ret
  exact ⟨rfl, rfl⟩

end Go.Proofs.Ytjeonlpojkajcaa
