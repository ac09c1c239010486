/-
  A slice of conventiclelaw18.Act that came in.
-/
import Derived.Test.YtkafejbfhmolhaaMsgs
import Derived.Test.YtkafejbfhmolhaaFrame
import Derived.Test.YtkafejbfhmolhaaSlices
namespace Go.Proofs.Ytkafejbfhmolhaa
open Go.RowKit Go.ChangeShapes Go.WideShapes

structure ActD where
  kind : Int
  n : Int
  text : ByteArray
  m : M

instance : Inhabited ActD := ⟨⟨0, 0, ⟨#[]⟩, m0⟩⟩

structure ActCells (w : World) (b o : Nat) (t : ActD) : Prop where
  c0 : w.cell? ⟨b, o, none⟩ = some (.int .i64 t.kind)
  c1 : w.cell? ⟨b, o + 1, none⟩ = some (.int .i64 t.n)
  c2 : w.cell? ⟨b, o + 2, none⟩ = some (.string t.text)
  c3 : w.cell? ⟨b, o + 3, none⟩ = some (.int .i64 t.m.1)
  c4 : w.cell? ⟨b, o + 4, none⟩ = some (.int .u64 t.m.2.1)
  c5 : w.cell? ⟨b, o + 5, none⟩ = some (.string t.m.2.2)
  wn : -9223372036854775808 ≤ t.n ∧ t.n ≤ 9223372036854775807
  wt : t.text.size ≤ 9223372036854775807

def DActsAt (w : World) (a : Option Addr) (acts : List ActD) : Prop :=
  acts ≠ [] → ∃ b o, a = some ⟨b, o, none⟩ ∧ b < w.heap.size ∧ ∀ j t, acts[j]? = some t → ActCells w b (o + j * 6) t

theorem DActsAt.mod {w w' : World} {a : Option Addr} {acts : List ActD} (h : DActsAt w a acts) (hm : Mod [] w w') : DActsAt w' a acts := fun hne => by
  obtain ⟨b, o, ha, hb, hc⟩ := h hne
  refine ⟨b, o, ha, Nat.lt_of_lt_of_le hb hm.size, fun j t hj => ?_⟩
  obtain ⟨c0, c1, c2, c3, c4, c5, wn, wt⟩ := hc j t hj
  exact ⟨(hm.cell hb (by simp)).trans c0, (hm.cell hb (by simp)).trans c1, (hm.cell hb (by simp)).trans c2, (hm.cell hb (by simp)).trans c3, (hm.cell hb (by simp)).trans c4, (hm.cell hb (by simp)).trans c5, wn, wt⟩

theorem trod_struct4 {H : Type} {enc : TypeId × Value → H} {P : Program} {w : World} {base : Nat} {spare : Nat → Bool} {held : Bool} {t : TypeId} {f0 f1 f2 f3 : Field} {fuel : Nat} {cs : List Value} {x : DataW H × List MemPlace} (ht : P.underlying t = some (.struct #[f0, f1, f2, f3])) (h : DataW.trod enc P w base spare held fuel t cs = some x) :
    ∃ y0 y1 y2 y3 n, DataW.trod enc P w base spare held n f0.type ((cs.drop f0.offset).take (P.cellsOf f0.type)) = some y0 ∧ DataW.trod enc P w base spare held n f1.type ((cs.drop f1.offset).take (P.cellsOf f1.type)) = some y1 ∧
      DataW.trod enc P w base spare held n f2.type ((cs.drop f2.offset).take (P.cellsOf f2.type)) = some y2 ∧ DataW.trod enc P w base spare held n f3.type ((cs.drop f3.offset).take (P.cellsOf f3.type)) = some y3 := by
  obtain ⟨xs, n, _, rfl, hl, hlen, hf⟩ := DataW.trod_struct ht h
  match xs, hlen with
  | [y0, y1, y2, y3], _ => exact ⟨y0, y1, y2, y3, n, by simpa using hf 0 f0 rfl, by simpa using hf 1 f1 rfl, by simpa using hf 2 f2 rfl, by simpa using hf 3 f3 rfl⟩

theorem dacts_of_trod {H : Type} {enc : TypeId × Value → H} {W : World} {base : Nat} {spare : Nat → Bool} {held : Bool} {a : Option Addr} {len cap : Nat} {d : DataW H} {p : List MemPlace}
    (h : DataW.Trod enc Try.prog W base spare held 23 (.slice a len cap) d p) : ∃ acts : List ActD, len = acts.length ∧ DActsAt W a acts := by
  obtain ⟨_, _, hel⟩ := slice_elems (C := 6) Try.underlying23 (by kernel_rfl) (by omega) h
  have hone : ∀ i, i < len → ∃ t : ActD, ∃ b o, a = some ⟨b, o, none⟩ ∧ b < W.heap.size ∧ ActCells W b (o + i * 6) t := by
    intro i hi
    obtain ⟨b, o, ha, hb, cs, n, D, hl, hc, ht⟩ := hel i hi
    obtain ⟨y0, y1, y2, y3, n', g0, g1, g2, g3⟩ := trod_struct4 Try.underlying32 ht
    obtain ⟨k0, k1, k2, k3, k4, k5, rfl⟩ := list6 hl
    have q1 : Try.prog.cellsOf 3 = 1 := by kernel_rfl
    have q2 : Try.prog.cellsOf 22 = 1 := by kernel_rfl
    have q3 : Try.prog.cellsOf 9 = 1 := by kernel_rfl
    have q4 : Try.prog.cellsOf 30 = 3 := by kernel_rfl
    simp only [q1, q3, q4] at g0 g1 g2 g3
    have e0 : DataW.trod enc Try.prog W base spare held n' 3 [k0] = some y0 := g0
    have e1 : DataW.trod enc Try.prog W base spare held n' 3 [k1] = some y1 := g1
    have e2 : DataW.trod enc Try.prog W base spare held n' 9 [k2] = some y2 := g2
    have e3 : DataW.trod enc Try.prog W base spare held n' 30 [k3, k4, k5] = some y3 := g3
    clear g0 g1 g2 g3
    obtain ⟨z0, z1, z2, n2, _, _, g0, g1, g2⟩ := Deep.trod_struct3 Try.underlying30 e3
    simp only [q1, q2, q3] at g0 g1 g2
    have d0 : DataW.trod enc Try.prog W base spare held n2 3 [k3] = some z0 := g0
    have d1 : DataW.trod enc Try.prog W base spare held n2 22 [k4] = some z1 := g1
    have d2 : DataW.trod enc Try.prog W base spare held n2 9 [k5] = some z2 := g2
    clear g0 g1 g2
    obtain ⟨v0, h0, _, _⟩ := DataW.trod_int Try.underlying3 e0
    obtain ⟨v1, h1, _, w1⟩ := DataW.trod_int Try.underlying3 e1
    obtain ⟨v2, h2, _, w2⟩ := DataW.trod_string Try.underlying9 e2
    obtain ⟨v3, h3, _, _⟩ := DataW.trod_int Try.underlying3 d0
    obtain ⟨v4, h4, _, _⟩ := DataW.trod_int Try.underlying22 d1
    obtain ⟨v5, h5, _, _⟩ := DataW.trod_string Try.underlying9 d2
    simp only [List.cons.injEq, and_true] at h0 h1 h2 h3 h4 h5
    subst h0 h1 h2 h3 h4 h5
    exact ⟨⟨v0, v1, v2, (v3, v4, v5)⟩, b, o, ha, hb, by simpa using hc 0 (by omega), by simpa using hc 1 (by omega), by simpa using hc 2 (by omega), by simpa using hc 3 (by omega), by simpa using hc 4 (by omega), by simpa using hc 5 (by omega), wf_bounds_i64 w1, by simpa [maxLen] using w2⟩
  obtain ⟨F, hF⟩ := Deep.choose_lt (α := ActD) (fun i hi => hone i hi)
  refine ⟨(List.range len).map F, by simp, fun hne => ?_⟩
  have hpos : 0 < len := by
    rcases Nat.eq_zero_or_pos len with h | h
    · subst h; simp at hne
    · exact h
  obtain ⟨b, o, ha, hb, _⟩ := hF 0 hpos
  refine ⟨b, o, ha, hb, fun j t hj => ?_⟩
  have hjl : j < len := by
    have := (List.getElem?_eq_some_iff.1 hj).1
    simpa using this
  obtain ⟨b', o', ha', hb', hc⟩ := hF j hjl
  rw [ha] at ha'
  injection ha' with ha'
  injection ha' with e1 e2
  subst e1 e2
  have ht : F j = t := by simpa [hjl] using hj
  rw [ht] at hc
  exact hc

end Go.Proofs.Ytkafejbfhmolhaa
