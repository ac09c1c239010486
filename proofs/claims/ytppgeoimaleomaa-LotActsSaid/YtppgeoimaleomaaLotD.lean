/-
  Small words that the laws on lots share.
-/
import Derived.Test.YtppgeoimaleomaaLotC
import Derived.Test.YtppgeoimaleomaaFrame
namespace Go.Proofs.Ytppgeoimaleomaa
open Go.RowKit

theorem wf_u64s {xs : List Int} (h : ∀ x ∈ xs, (Lit.int .u64 x).wf = true) : ∀ x ∈ xs, 0 ≤ x ∧ x ≤ 18446744073709551615 := fun x hx => wf_bounds_u64 (h x hx)

theorem drop_head (xs : List Int) (i : Nat) (h : i < xs.length) : xs[i]? = some ((xs.drop i).headD 0) := by
  rw [List.drop_eq_getElem_cons h, List.getElem?_eq_getElem h]
  rfl
theorem drop_none (xs : List Int) (i : Nat) (h : xs.length ≤ i) : (xs.drop i).headD 0 = 0 := by
  rw [List.drop_of_length_le h]
  rfl
theorem drop_tail (xs : List Int) (i : Nat) : (xs.drop i).tail = xs.drop (i + 1) := by
  rw [List.tail_drop]

theorem LotsAt.cong {w : World} {d g : Nat} {xs ys : List Int} (h : LotsAt w d g xs) (e : xs = ys) : LotsAt w d g ys := e ▸ h

end Go.Proofs.Ytppgeoimaleomaa
