/-
  A slice of LotActs's Act that came in; lot.Some with what is left.
-/
import Derived.Test.YtppgeoimaleomaaRef03
import Derived.Test.YtppgeoimaleomaaLotD
import Derived.Test.YtppgeoimaleomaaFrame
import Derived.Test.YtppgeoimaleomaaSlices
namespace Go.Proofs.Ytppgeoimaleomaa
open Go.RowKit Go.ChangeShapes Go.WideShapes

structure ActV where
  kind : Int
  n : Int
  a : Option Addr
  c : Nat
  l : List Int

instance : Inhabited ActV := ⟨⟨0, 0, none, 0, []⟩⟩

/-- The cells of a slice of Act. -/
def ActsAt (w : World) (a : Option Addr) (acts : List ActV) : Prop :=
  acts ≠ [] → ∃ b o, a = some ⟨b, o, none⟩ ∧ b < w.heap.size ∧ ∀ j t, acts[j]? = some t → w.cell? ⟨b, o + j * 3, none⟩ = some (.int .i64 t.kind) ∧ w.cell? ⟨b, o + j * 3 + 1, none⟩ = some (.int .i64 t.n) ∧
    w.cell? ⟨b, o + j * 3 + 2, none⟩ = some (.slice t.a t.l.length t.c) ∧ RdInts .i64 w t.a t.l ∧ (t.a = none → t.c = 0) ∧ (-9223372036854775808 ≤ t.n ∧ t.n ≤ 9223372036854775807)

theorem acts_of_trod {H : Type} {enc : TypeId × Value → H} {W : World} {base : Nat} {spare : Nat → Bool} {held : Bool} {a : Option Addr} {len cap : Nat} {d : DataW H} {p : List MemPlace}
    (h : DataW.Trod enc Try.prog W base spare held 23 (.slice a len cap) d p) : ∃ acts : List ActV, len = acts.length ∧ ActsAt W a acts := by
  obtain ⟨_, _, hel⟩ := slice_elems (C := 3) Try.underlying23 (by kernel_rfl) (by omega) h
  have hone : ∀ i, i < len → ∃ t : ActV, ∃ b o, a = some ⟨b, o, none⟩ ∧ b < W.heap.size ∧ W.cell? ⟨b, o + i * 3, none⟩ = some (.int .i64 t.kind) ∧ W.cell? ⟨b, o + i * 3 + 1, none⟩ = some (.int .i64 t.n) ∧
      W.cell? ⟨b, o + i * 3 + 2, none⟩ = some (.slice t.a t.l.length t.c) ∧ RdInts .i64 W t.a t.l ∧ (t.a = none → t.c = 0) ∧ (-9223372036854775808 ≤ t.n ∧ t.n ≤ 9223372036854775807) := by
    intro i hi
    obtain ⟨b, o, ha, hb, cs, n, D, hl, hc, ht⟩ := hel i hi
    obtain ⟨y0, y1, y2, n', _, _, g0, g1, g2⟩ := Deep.trod_struct3 Try.underlying31 ht
    obtain ⟨c0, c1, c2, rfl⟩ := list3 hl
    have q1 : Try.prog.cellsOf 3 = 1 := by kernel_rfl
    have q2 : Try.prog.cellsOf 29 = 1 := by kernel_rfl
    simp only [q1, q2] at g0 g1 g2
    have e0 : DataW.trod enc Try.prog W base spare held n' 3 [c0] = some y0 := g0
    have e1 : DataW.trod enc Try.prog W base spare held n' 3 [c1] = some y1 := g1
    have e2 : DataW.trod enc Try.prog W base spare held n' 29 [c2] = some y2 := g2
    clear g0 g1 g2
    obtain ⟨k0, h0, _, _⟩ := DataW.trod_int Try.underlying3 e0
    obtain ⟨k1, h1, _, w1⟩ := DataW.trod_int Try.underlying3 e1
    obtain ⟨s, l', c', h2⟩ := slice_shape Try.underlying29 e2
    simp only [List.cons.injEq, and_true] at h0 h1 h2
    subst h0 h1 h2
    obtain ⟨xs, rfl, rd, _, nc⟩ := rd_of_trod (W := W) Try.underlying29 Try.underlying3 (by kernel_rfl) ⟨_, e2⟩
    exact ⟨⟨k0, k1, s, c', xs⟩, b, o, ha, hb, by simpa using hc 0 (by omega), by simpa using hc 1 (by omega), by simpa using hc 2 (by omega), rd, nc, wf_bounds_i64 w1⟩
  obtain ⟨F, hF⟩ := Deep.choose_lt (α := ActV) (fun i hi => hone i hi)
  refine ⟨(List.range len).map F, by simp, fun hne => ?_⟩
  have hpos : 0 < len := by
    rcases Nat.eq_zero_or_pos len with h | h
    · subst h; simp at hne
    · exact h
  obtain ⟨b, o, ha, hb, _⟩ := hF 0 hpos
  refine ⟨b, o, ha, hb, fun j t hj => ?_⟩
  have hjl : j < len := by
    have := (List.getElem?_eq_some_iff.1 hj).1
    simpa using this
  obtain ⟨b', o', ha', hb', hc⟩ := hF j hjl
  rw [ha] at ha'
  injection ha' with ha'
  injection ha' with e1 e2
  subst e1 e2
  have ht : F j = t := by simpa [hjl] using hj
  rw [ht] at hc
  exact hc

end Go.Proofs.Ytppgeoimaleomaa
