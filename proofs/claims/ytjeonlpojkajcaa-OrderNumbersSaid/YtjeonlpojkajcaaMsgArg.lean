/-
  A slice of messages that came in.
-/
import Derived.Test.YtjeonlpojkajcaaMsgs
import Derived.Test.YtjeonlpojkajcaaFrame
import Derived.Test.YtjeonlpojkajcaaSlices
namespace Go.Proofs.Ytjeonlpojkajcaa
open Go.RowKit Go.ChangeShapes Go.WideShapes

instance : Inhabited M := ⟨m0⟩

def MsgWf (m : M) : Prop := (Lit.int .i64 m.1).wf = true ∧ 0 ≤ m.2.1 ∧ m.2.1 ≤ 18446744073709551615

/-- The cells of a slice of messages. -/
def MsgsAt (w : World) (a : Option Addr) (ms : List M) : Prop :=
  ms ≠ [] → ∃ b o, a = some ⟨b, o, none⟩ ∧ b < w.heap.size ∧ ∀ j t, ms[j]? = some t → w.cell? ⟨b, o + j * 3, none⟩ = some (.int .i64 t.1) ∧ w.cell? ⟨b, o + j * 3 + 1, none⟩ = some (.int .u64 t.2.1) ∧
    w.cell? ⟨b, o + j * 3 + 2, none⟩ = some (.string t.2.2) ∧ MsgWf t

theorem msgs_of_trod {H : Type} {enc : TypeId × Value → H} {W : World} {base : Nat} {spare : Nat → Bool} {held : Bool} {a : Option Addr} {len cap : Nat} {d : DataW H} {p : List MemPlace}
    (h : DataW.Trod enc Try.prog W base spare held 25 (.slice a len cap) d p) : ∃ ms : List M, len = ms.length ∧ MsgsAt W a ms := by
  obtain ⟨_, _, hel⟩ := slice_elems (C := 3) Try.underlying25 (by kernel_rfl) (by omega) h
  have hone : ∀ i, i < len → ∃ t : M, ∃ b o, a = some ⟨b, o, none⟩ ∧ b < W.heap.size ∧ W.cell? ⟨b, o + i * 3, none⟩ = some (.int .i64 t.1) ∧ W.cell? ⟨b, o + i * 3 + 1, none⟩ = some (.int .u64 t.2.1) ∧
      W.cell? ⟨b, o + i * 3 + 2, none⟩ = some (.string t.2.2) ∧ MsgWf t := by
    intro i hi
    obtain ⟨b, o, ha, hb, cs, n, D, hl, hc, ht⟩ := hel i hi
    obtain ⟨y0, y1, y2, n', _, _, g0, g1, g2⟩ := Deep.trod_struct3 Try.underlying33 ht
    obtain ⟨c0, c1, c2, rfl⟩ := list3 hl
    have q1 : Try.prog.cellsOf 3 = 1 := by kernel_rfl
    have q2 : Try.prog.cellsOf 22 = 1 := by kernel_rfl
    have q3 : Try.prog.cellsOf 9 = 1 := by kernel_rfl
    simp only [q1, q2, q3] at g0 g1 g2
    have e0 : DataW.trod enc Try.prog W base spare held n' 3 [c0] = some y0 := g0
    have e1 : DataW.trod enc Try.prog W base spare held n' 22 [c1] = some y1 := g1
    have e2 : DataW.trod enc Try.prog W base spare held n' 9 [c2] = some y2 := g2
    clear g0 g1 g2
    obtain ⟨k0, h0, _, w0⟩ := DataW.trod_int Try.underlying3 e0
    obtain ⟨k1, h1, _, w1⟩ := DataW.trod_int Try.underlying22 e1
    obtain ⟨s, h2, _, _⟩ := DataW.trod_string Try.underlying9 e2
    simp only [List.cons.injEq, and_true] at h0 h1 h2
    subst h0 h1 h2
    exact ⟨(k0, k1, s), b, o, ha, hb, by simpa using hc 0 (by omega), by simpa using hc 1 (by omega), by simpa using hc 2 (by omega), w0, wf_bounds_u64 w1⟩
  obtain ⟨F, hF⟩ := Deep.choose_lt (α := M) (fun i hi => hone i hi)
  refine ⟨(List.range len).map F, by simp, fun hne => ?_⟩
  have hpos : 0 < len := by
    rcases Nat.eq_zero_or_pos len with h | h
    · subst h; simp at hne
    · exact h
  obtain ⟨b, o, ha, hb, _⟩ := hF 0 hpos
  refine ⟨b, o, ha, hb, fun j t hj => ?_⟩
  have hjl : j < len := by
    have := (List.getElem?_eq_some_iff.1 hj).1
    simpa using this
  obtain ⟨b', o', ha', hb', hc⟩ := hF j hjl
  rw [ha] at ha'
  injection ha' with ha'
  injection ha' with e1 e2
  subst e1 e2
  have ht : F j = t := by simpa [hjl] using hj
  rw [ht] at hc
  exact hc

theorem MsgsAt.mod {w w' : World} {a : Option Addr} {ms : List M} (h : MsgsAt w a ms) (hm : Mod [] w w') : MsgsAt w' a ms := fun hne => by
  obtain ⟨b, o, ha, hb, hc⟩ := h hne
  refine ⟨b, o, ha, Nat.lt_of_lt_of_le hb hm.size, fun j t hj => ?_⟩
  obtain ⟨c0, c1, c2, c3⟩ := hc j t hj
  exact ⟨(hm.cell hb (by simp)).trans c0, (hm.cell hb (by simp)).trans c1, (hm.cell hb (by simp)).trans c2, c3⟩

end Go.Proofs.Ytjeonlpojkajcaa
