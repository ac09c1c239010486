/-
  A slice of structs that came in: its elements' cells.
-/
import Derived.Test.YtnapboojfhojjaaFrame
import Derived.Deep.Slices
import Derived.Deep.Strs
namespace Go.Proofs.Ytnapboojfhojjaa
open Go.RowKit Go.ChangeShapes Go.WideShapes

theorem list3 {α : Type} {l : List α} (h : l.length = 3) : ∃ a b c, l = [a, b, c] := by
  match l, h with
  | [a, b, c], _ => exact ⟨a, b, c, rfl⟩
theorem list4 {α : Type} {l : List α} (h : l.length = 4) : ∃ a b c d, l = [a, b, c, d] := by
  match l, h with
  | [a, b, c, d], _ => exact ⟨a, b, c, d, rfl⟩
theorem list6 {α : Type} {l : List α} (h : l.length = 6) : ∃ a b c d e f, l = [a, b, c, d, e, f] := by
  match l, h with
  | [a, b, c, d, e, f], _ => exact ⟨a, b, c, d, e, f, rfl⟩

theorem slice_shape {H : Type} {enc : TypeId × Value → H} {P : Program} {W : World} {base : Nat} {spare : Nat → Bool} {held : Bool} {t e : TypeId} {f : Nat} {v : Value} {x : DataW H × List MemPlace}
    (ht : P.underlying t = some (.slice e)) (h : DataW.trod enc P W base spare held f t [v] = some x) : ∃ a l c, [v] = [Value.slice a l c] := by
  rcases Deep.open_slice ht h with ⟨h0, _⟩ | ⟨a, len, cap, m, n, D, Pl, hcs, _⟩
  · exact ⟨_, _, _, h0⟩
  · exact ⟨_, _, _, hcs⟩

theorem slice_elems {H : Type} {enc : TypeId × Value → H} {P : Program} {W : World} {base : Nat} {spare : Nat → Bool} {held : Bool} {t e : TypeId} {C : Nat} {a : Option Addr} {len cap : Nat} {d : DataW H} {p : List MemPlace}
    (ht : P.underlying t = some (.slice e)) (hC : P.cellsOf e = C) (hC0 : 0 < C) (h : DataW.Trod enc P W base spare held t (.slice a len cap) d p) :
    (a = none → cap = 0) ∧ True ∧ ∀ i, i < len → ∃ b o, a = some ⟨b, o, none⟩ ∧ b < W.heap.size ∧ ∃ cs n D, cs.length = C ∧ (∀ j, j < C → W.cell? ⟨b, o + i * C + j, none⟩ = cs[j]?) ∧ DataW.trod enc P W base spare held n e cs = some D := by
  obtain ⟨fuel, hf⟩ := h
  rcases Deep.open_slice ht hf with ⟨h0, _⟩ | ⟨ad, l, c, m, n, D, Pl, hcs, _, hl, hm, hmm, _, hx⟩
  · simp [Value.cells] at h0
    obtain ⟨rfl, rfl, rfl⟩ := h0
    exact ⟨fun _ => rfl, trivial, fun i hi => by omega⟩
  · simp [Value.cells] at hcs
    obtain ⟨rfl, rfl, rfl⟩ := hcs
    refine ⟨fun h => (by cases h), trivial, fun i hi => ?_⟩
    have him : i < m := by rw [hmm]; split <;> omega
    obtain ⟨cs, g1, g2⟩ := hx i him
    rw [hC] at g1
    obtain ⟨_, hlen, hcell⟩ := World.cells?_some g1
    have h00 : 0 < m := by omega
    obtain ⟨cs0, q1, _⟩ := hx 0 h00
    rw [hC] at q1
    obtain ⟨_, qlen, qcell⟩ := World.cells?_some q1
    have hc0 := qcell 0 hC0
    rw [List.getElem?_eq_getElem (by omega)] at hc0
    simp only [Nat.zero_mul, Addr.add, if_true] at hc0
    have hspot := World.cell?_spot hc0
    obtain ⟨b, o, s⟩ := ad
    simp only at hspot
    subst hspot
    refine ⟨b, o, rfl, ?_, cs, n, _, hlen, fun j hj => ?_, g2⟩
    · exact cell_lt hc0
    · have := hcell j hj
      rwa [add_lit, add_lit] at this

end Go.Proofs.Ytnapboojfhojjaa
