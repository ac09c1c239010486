/-
  A slice of strings that came in.
-/
import Derived.Test.YtonpfpldmgochaaBase
import Derived.Test.YtonpfpldmgochaaFrame
import Derived.Deep.Strs
namespace Go.Proofs.Ytonpfpldmgochaa
open Go.RowKit Go.ChangeShapes Go.WideShapes

/-- A slice's strings, where it has any. -/
def StrsAt (w : World) (a : Option Addr) (ts : List ByteArray) : Prop :=
  ts ≠ [] → ∃ ad, a = some ad ∧ ad.block < w.heap.size ∧ ∀ j t, ts[j]? = some t → w.cell? (ad.add j) = some (.string t) ∧ t.size ≤ 9223372036854775807

theorem StrsAt.mod {w w' : World} {a : Option Addr} {ts : List ByteArray} (h : StrsAt w a ts) (hm : Mod [] w w') : StrsAt w' a ts := fun hx => by
  obtain ⟨ad, h1, h2, h3⟩ := h hx
  refine ⟨ad, h1, Nat.lt_of_lt_of_le h2 hm.size, fun j t hj => ⟨?_, (h3 j t hj).2⟩⟩
  exact (hm.cell (p := ad.add j) (by rw [add_block]; exact h2) (by simp)).trans (h3 j t hj).1

theorem strs_of_trod {H : Type} {enc : TypeId × Value → H} {W : World} {base : Nat} {spare : Nat → Bool} {held : Bool} {a : Option Addr} {len cap : Nat} {d : DataW H} {p : List MemPlace}
    (h : DataW.Trod enc Try.prog W base spare held 22 (.slice a len cap) d p) : ∃ ts : List ByteArray, len = ts.length ∧ StrsAt W a ts := by
  obtain ⟨fuel, hf⟩ := h
  rcases Deep.open_strs Try.underlying22 Try.underlying9 (by kernel_rfl) hf with ⟨hcs, _⟩ | ⟨x, l, c, m, Sx, hcs, _, hl, hm, hmm, _, hcell⟩
  · simp [Value.cells] at hcs
    obtain ⟨rfl, rfl, rfl⟩ := hcs
    exact ⟨[], rfl, fun h => absurd rfl h⟩
  · simp [Value.cells] at hcs
    obtain ⟨rfl, rfl, rfl⟩ := hcs
    have hlen : len ≤ m := by rw [hmm]; split <;> omega
    refine ⟨(List.range len).map Sx, by simp, fun hx => ?_⟩
    have h0 : 0 < len := by
      rcases Nat.eq_zero_or_pos len with h | h
      · subst h; simp at hx
      · exact h
    refine ⟨x, rfl, ?_, fun j t hj => ?_⟩
    · have := cell_lt (hcell 0 (by omega)).1
      simpa [add_block] using this
    · have hj2 : j < len := by
        have := (List.getElem?_eq_some_iff.1 hj).1
        simpa using this
      have ht : Sx j = t := by simpa [hj2] using hj
      rw [← ht]
      exact ⟨(hcell j (by omega)).1, by simpa [maxLen] using (hcell j (by omega)).2⟩

end Go.Proofs.Ytonpfpldmgochaa
