/-
  The walk of order's Clerk: Last.
-/
import Derived.Test.YtjeonlpojkajcaaClerk
namespace Go.Proofs.Ytjeonlpojkajcaa
open Go.RowKit

set_option maxHeartbeats 1000000 in
theorem clast_any (d m sz : Nat) (nx : Int) (f : Int → Option Int) (k c : Int) (w : World) (h : ClerkAt w d m nx f sz) (hk : (Lit.int .i64 k).wf = true) (hc : (f k).getD 0 = c) :
    Calls Try.prog 12 #[.pointer (some ⟨d, 0, none⟩), .int .i64 k] w fun e w' => e = .returned (.int .u64 c) ∧ w = w' := by
  obtain ⟨h1, h2, h3, h4, h5, h6, h7⟩ := h
  have H5 := Lib.hid h5
  have HC := Lib.hid hc
  have HK := Lib.hid hk
  clear h1 h3 h5 h6 h7 hc hk
  go_enter Try.func12, Try.ntmps12
  go_wp2_with (at_lookup; with_reducible refine wpList_omap_look (b := m) rfl (.tmp 8) (.tmp 9) 27 rfl Try.underlying3 Try.underlying27 Try.underlying22 Try.zero_u64 f sz rfl H5.out k c rfl HK.out HC.out ?_)
  go_ret
  exact ⟨rfl, rfl⟩

end Go.Proofs.Ytjeonlpojkajcaa
