/-
  A slice of RoundActs's Act that came in.
-/
import Derived.Test.YtnapboojfhojjaaFrame
import Derived.Test.YtnapboojfhojjaaSlices
namespace Go.Proofs.Ytnapboojfhojjaa
open Go.RowKit Go.ChangeShapes Go.WideShapes

theorem trod_struct4 {H : Type} {enc : TypeId × Value → H} {P : Program} {w : World} {base : Nat} {spare : Nat → Bool} {held : Bool} {t : TypeId} {f0 f1 f2 f3 : Field} {fuel : Nat} {cs : List Value} {x : DataW H × List MemPlace} (ht : P.underlying t = some (.struct #[f0, f1, f2, f3])) (h : DataW.trod enc P w base spare held fuel t cs = some x) :
    ∃ y0 y1 y2 y3 n, DataW.trod enc P w base spare held n f0.type ((cs.drop f0.offset).take (P.cellsOf f0.type)) = some y0 ∧ DataW.trod enc P w base spare held n f1.type ((cs.drop f1.offset).take (P.cellsOf f1.type)) = some y1 ∧
      DataW.trod enc P w base spare held n f2.type ((cs.drop f2.offset).take (P.cellsOf f2.type)) = some y2 ∧ DataW.trod enc P w base spare held n f3.type ((cs.drop f3.offset).take (P.cellsOf f3.type)) = some y3 := by
  obtain ⟨xs, n, _, rfl, hl, hlen, hf⟩ := DataW.trod_struct ht h
  match xs, hlen with
  | [y0, y1, y2, y3], _ => exact ⟨y0, y1, y2, y3, n, by simpa using hf 0 f0 rfl, by simpa using hf 1 f1 rfl, by simpa using hf 2 f2 rfl, by simpa using hf 3 f3 rfl⟩

structure ActV where
  kind : Int
  n : Int
  no : Int
  b : Int

instance : Inhabited ActV := ⟨⟨0, 0, 0, 0⟩⟩

/-- The cells of a slice of Act. -/
def ActsAt (w : World) (a : Option Addr) (acts : List ActV) : Prop :=
  acts ≠ [] → ∃ b o, a = some ⟨b, o, none⟩ ∧ b < w.heap.size ∧ ∀ j t, acts[j]? = some t → w.cell? ⟨b, o + j * 4, none⟩ = some (.int .i64 t.kind) ∧ w.cell? ⟨b, o + j * 4 + 1, none⟩ = some (.int .i64 t.n) ∧
    w.cell? ⟨b, o + j * 4 + 2, none⟩ = some (.int .i64 t.no) ∧ w.cell? ⟨b, o + j * 4 + 3, none⟩ = some (.int .u64 t.b) ∧ (0 ≤ t.b ∧ t.b ≤ 18446744073709551615)

theorem acts_of_trod {H : Type} {enc : TypeId × Value → H} {W : World} {base : Nat} {spare : Nat → Bool} {held : Bool} {a : Option Addr} {len cap : Nat} {d : DataW H} {p : List MemPlace}
    (h : DataW.Trod enc Try.prog W base spare held 23 (.slice a len cap) d p) : ∃ acts : List ActV, len = acts.length ∧ ActsAt W a acts := by
  obtain ⟨_, _, hel⟩ := slice_elems (C := 4) Try.underlying23 (by kernel_rfl) (by omega) h
  have hone : ∀ i, i < len → ∃ t : ActV, ∃ b o, a = some ⟨b, o, none⟩ ∧ b < W.heap.size ∧ W.cell? ⟨b, o + i * 4, none⟩ = some (.int .i64 t.kind) ∧ W.cell? ⟨b, o + i * 4 + 1, none⟩ = some (.int .i64 t.n) ∧
      W.cell? ⟨b, o + i * 4 + 2, none⟩ = some (.int .i64 t.no) ∧ W.cell? ⟨b, o + i * 4 + 3, none⟩ = some (.int .u64 t.b) ∧ (0 ≤ t.b ∧ t.b ≤ 18446744073709551615) := by
    intro i hi
    obtain ⟨b, o, ha, hb, cs, n, D, hl, hc, ht⟩ := hel i hi
    obtain ⟨y0, y1, y2, y3, n', g0, g1, g2, g3⟩ := trod_struct4 Try.underlying40 ht
    obtain ⟨c0, c1, c2, c3, rfl⟩ := list4 hl
    have q1 : Try.prog.cellsOf 3 = 1 := by kernel_rfl
    have q2 : Try.prog.cellsOf 38 = 1 := by kernel_rfl
    simp only [q1, q2] at g0 g1 g2 g3
    have e0 : DataW.trod enc Try.prog W base spare held n' 3 [c0] = some y0 := g0
    have e1 : DataW.trod enc Try.prog W base spare held n' 3 [c1] = some y1 := g1
    have e2 : DataW.trod enc Try.prog W base spare held n' 3 [c2] = some y2 := g2
    have e3 : DataW.trod enc Try.prog W base spare held n' 38 [c3] = some y3 := g3
    clear g0 g1 g2 g3
    obtain ⟨k0, h0, _, _⟩ := DataW.trod_int Try.underlying3 e0
    obtain ⟨k1, h1, _, _⟩ := DataW.trod_int Try.underlying3 e1
    obtain ⟨k2, h2, _, _⟩ := DataW.trod_int Try.underlying3 e2
    obtain ⟨k3, h3, _, w3⟩ := DataW.trod_int Try.underlying38 e3
    simp only [List.cons.injEq, and_true] at h0 h1 h2 h3
    subst h0 h1 h2 h3
    exact ⟨⟨k0, k1, k2, k3⟩, b, o, ha, hb, by simpa using hc 0 (by omega), by simpa using hc 1 (by omega), by simpa using hc 2 (by omega), by simpa using hc 3 (by omega), wf_bounds_u64 w3⟩
  obtain ⟨F, hF⟩ := Deep.choose_lt (α := ActV) (fun i hi => hone i hi)
  refine ⟨(List.range len).map F, by simp, fun hne => ?_⟩
  have hpos : 0 < len := by
    rcases Nat.eq_zero_or_pos len with h | h
    · subst h; simp at hne
    · exact h
  obtain ⟨b, o, ha, hb, _⟩ := hF 0 hpos
  refine ⟨b, o, ha, hb, fun j t hj => ?_⟩
  have hjl : j < len := by
    have := (List.getElem?_eq_some_iff.1 hj).1
    simpa using this
  obtain ⟨b', o', ha', hb', hc⟩ := hF j hjl
  rw [ha] at ha'
  injection ha' with ha'
  injection ha' with e1 e2
  subst e1 e2
  have ht : F j = t := by simpa [hjl] using hj
  rw [ht] at hc
  exact hc

end Go.Proofs.Ytnapboojfhojjaa
