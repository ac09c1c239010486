/-
  What the frames of the laws' proofs share: an argument's numbers as the walks take them.
  What the Top laws' proofs share: the table that is laid, as the walks take it.
-/
import Derived.Test.YtaaaiggbnkeblaaGreatDoorMBase
import Derived.ProofKit
import Derived.OpenShut
import Derived.ShutString
import Derived.ChangeOld
import Derived.LaidMore
import Derived.MakeChecks
import Derived.Stop.Joined
import Derived.Deep.Slices
import Derived.Deep.Strs
import Derived.Deep.SlicePairs
namespace Go.Proofs.YtaaaiggbnkeblaaGreatDoor
set_option linter.unusedSimpArgs false
set_option linter.unusedVariables false
open Go.ChangeShapes Go.WideShapes Go.ChangeAt Go.RowKit

theorem Tryz.own : ownKnob Tryz.prog.godebug = none := by kernel_rfl
theorem Tryz.laidOut : laidOutB Tryz.prog = true := by kernel_rfl

theorem band {a b : Bool} (ha : a = true) (hb : b = true) : (a && b) = true := by rw [ha, hb]; rfl

theorem wf_bounds_u8 {x : Int} (h : (Lit.int .u8 x).wf = true) : 0 ≤ x ∧ x ≤ 255 := by
  simp only [Lit.wf, Bool.and_eq_true, decide_eq_true_eq] at h; exact h
theorem wf_bounds_u64 {x : Int} (h : (Lit.int .u64 x).wf = true) : 0 ≤ x ∧ x ≤ 18446744073709551615 := by
  simp only [Lit.wf, Bool.and_eq_true, decide_eq_true_eq] at h; exact h
theorem wf_bounds_i64 {x : Int} (h : (Lit.int .i64 x).wf = true) : -9223372036854775808 ≤ x ∧ x ≤ 9223372036854775807 := by
  simp only [Lit.wf, Bool.and_eq_true, decide_eq_true_eq] at h; exact h

theorem cell_lt {w : World} {p : Addr} {v : Value} (h : w.cell? p = some v) : p.block < w.heap.size := by
  unfold World.cell? at h
  rcases Nat.lt_or_ge p.block w.heap.size with h' | h'
  · exact h'
  · rw [Array.getElem?_eq_none h'] at h
    cases h

theorem rd_of_trod {H : Type} {enc : TypeId × Value → H} {P : Program} {W : World} {base : Nat} {spare : Nat → Bool} {held : Bool} {t e : TypeId} {k : IntKind} {a : Option Addr} {len cap : Nat} {d : DataW H} {p : List MemPlace}
    (ht : P.underlying t = some (.slice e)) (he : P.underlying e = some (.int k)) (hc : P.cellsOf e = 1) (h : DataW.Trod enc P W base spare held t (.slice a len cap) d p) :
    ∃ xs : List Int, len = xs.length ∧ RdInts k W a xs ∧ (∀ x ∈ xs, (Lit.int k x).wf = true) ∧ (a = none → cap = 0) := by
  obtain ⟨fuel, hf⟩ := h
  rcases open_ints ht he hc hf with ⟨hcs, _⟩ | ⟨x, l, c, zs, hcs, _, hl, hm, hz, _, hcell, hwz⟩
  · simp [Value.cells] at hcs
    obtain ⟨rfl, rfl, rfl⟩ := hcs
    exact ⟨[], rfl, fun h => absurd rfl h, by simp, fun _ => rfl⟩
  · simp [Value.cells] at hcs
    obtain ⟨rfl, rfl, rfl⟩ := hcs
    have hlen : len ≤ zs.length := by split at hz <;> omega
    refine ⟨zs.take len, by simp; omega, fun hx => ?_, fun x hx => hwz x (List.mem_of_mem_take hx), fun h => by cases h⟩
    have h0 : 0 < (zs.take len).length := List.length_pos_iff.2 hx
    have h1 : 0 < zs.length := by simp at h0; omega
    refine ⟨x, rfl, ?_, fun j y hj => ?_⟩
    · have := cell_lt (hcell 0 h1)
      simpa [add_block] using this
    · have hj1 : j < zs.length := by
        have := (List.getElem?_eq_some_iff.1 hj).1
        simp at this; omega
      have hj2 : j < len := by
        have := (List.getElem?_eq_some_iff.1 hj).1
        simp at this; omega
      rw [hcell j hj1]
      rw [List.getElem?_take_of_lt hj2] at hj
      simp [List.getD, hj]

end Go.Proofs.YtaaaiggbnkeblaaGreatDoor

namespace Go.Proofs.YtaaaiggbnkeblaaGreatDoor
set_option linter.unusedSimpArgs false
set_option linter.unusedVariables false
open Go.ChangeShapes Go.WideShapes Go.ChangeAt Go.RowKit

theorem gTab : Tryz.prog.globalNamed "math/bits.deBruijn64tab" = some 1 := by kernel_rfl
theorem tTab : (Tryz.prog.globals[1]?).map (·.type) = some 311 := by kernel_rfl
theorem cTab : Tryz.prog.cellsOf 311 = 64 := by kernel_rfl
theorem cU8 : Tryz.prog.cellsOf 5 = 1 := by kernel_rfl
theorem laidTab_eq : (Rows.laid_math_bits_deBruijn64tab : DataW Unit) = .agg (deB.map fun (n : Nat) => .lit (.int .u8 (n : Int))) := rfl
def laidT : List (String × DataW Unit) := [("math/bits.deBruijn64tab", Rows.laid_math_bits_deBruijn64tab)]

/-- The door's own heap meets the condition. -/
theorem door_met (os : Os) (args : Array Value) : laidMetH Tryz.prog laidT ((World.doorLaid Tryz.prog 400 os).forCall (fun _ _ => 0) ⟨#[], args, []⟩).memory :=
  laidMetH_of_parts3 (fuel := 8) (laidMet_of_run' 8 (by kernel_rfl) (by kernel_rfl)) (by kernel_rfl) (by kernel_rfl)

theorem tab_of_laid {W : World} (h : laidMetH Tryz.prog laidT W) : Tab W := by
  rw [MakeChecks.laidMetH_plain _ _ _ (by kernel_rfl)] at h
  obtain ⟨ps, ⟨g0, t0, cs0, f0, p0, q0, hg0, ht0, hv0, hd0, _, _⟩, _, _⟩ := h
  obtain rfl := Option.some.inj (gTab.symm.trans hg0)
  obtain rfl := Option.some.inj (tTab.symm.trans ht0)
  obtain ⟨xs, m1, rfl, hx, hlen, hn, hel⟩ := DataW.trod_array Tryz.underlying311 hd0
  rw [cTab] at hlen
  have hcell : ∀ j x, deB[j]? = some x → W.cell? ⟨1, j, none⟩ = some (.int .u8 (x : Nat)) := fun j x hj => by
    have hj64 : j < 64 := (List.getElem?_eq_some_iff.1 hj).1
    have h0 := hel j hj64
    rw [cU8, Nat.mul_one] at h0
    have hjc : j < cs0.toList.length := by omega
    obtain ⟨c, hc⟩ : ∃ c, cs0.toList[j]? = some c := ⟨_, List.getElem?_eq_getElem hjc⟩
    have e1 : (cs0.toList.drop j).take 1 = [c] := by
      rw [List.getElem?_eq_getElem hjc] at hc
      rw [List.drop_eq_getElem_cons hjc, Option.some.inj hc]
      rfl
    rw [e1] at h0
    have hjx : j < xs.length := by omega
    rw [List.getElem?_eq_getElem hjx] at h0
    obtain ⟨k, e2, e3, _⟩ := DataW.trod_int Tryz.underlying5 h0
    have e4 : (deB.map fun (n : Nat) => (DataW.lit (.int .u8 (n : Int)) : DataW Unit)) = xs.map (·.1) := by
      have := congrArg Prod.fst hx
      rw [laidTab_eq] at this
      simpa using this
    have e5 : (deB.map fun (n : Nat) => (DataW.lit (.int .u8 (n : Int)) : DataW Unit))[j]? = (xs.map (·.1))[j]? := by rw [e4]
    rw [List.getElem?_map, List.getElem?_map, hj, List.getElem?_eq_getElem hjx] at e5
    simp only [Option.map_some, Option.some.injEq] at e5
    rw [e3] at e5
    have e6 : (x : Int) = k := by simpa using e5
    rw [World.var?_cell hg0 hv0 j]
    have e7 : cs0[j]? = some c := by simpa using hc
    rw [e7]
    have e8 : c = .int .u8 k := by simpa using e2
    rw [e8, e6]
  exact ⟨cell_lt (hcell 0 0 rfl), hcell⟩

theorem three_of {α : Type} {l : List α} (h : l.length = 3) : ∃ a b c, l = [a, b, c] := by
  match l, h with
  | [a, b, c], _ => exact ⟨a, b, c, rfl⟩
theorem wf_bounds_u32 {x : Int} (h : (Lit.int .u32 x).wf = true) : 0 ≤ x ∧ x ≤ 4294967295 := by
  simp only [Lit.wf, Bool.and_eq_true, decide_eq_true_eq] at h; exact h
theorem okWide_float {P : Program} {w : World} {r : Reach} {base : Nat} {t : TypeId} {v : Value} {k : FloatKind} (ht : P.underlying t = some (.float k)) (h : Value.okWide P w r base t v) : ∃ n, v = .float k n := by
  simp only [Value.okWide, ht, Cell.okWide] at h
  cases v <;> simp_all [Cell.ok]

set_option maxRecDepth 100000 in
theorem upd_of_trod {H : Type} {enc : TypeId × Value → H} {W : World} {base b0 : Nat} {spare : Nat → Bool} {held : Bool} {r : Reach} {v : Value} {d : DataW H} {p : List MemPlace} (hv : Value.okWide Tryz.prog W r b0 55 v)
    (h : DataW.Trod enc Tryz.prog W base spare held 55 v d p) : ∃ n i s : Int, v = .agg #[.int .i64 n, .int .u64 i, .int .i64 s] := by
  obtain ⟨cs, rfl, hsz⟩ := okWide_struct Tryz.underlying55 hv
  obtain ⟨m, ht⟩ := h
  have q : Tryz.prog.cellsOf 55 = 3 := by kernel_rfl
  have hl : cs.toList.length = 3 := (Array.length_toList).trans (hsz.trans q)
  obtain ⟨y0, y1, y2, n', _, _, g0, g1, g2⟩ := Deep.trod_struct3 Tryz.underlying55 ht
  obtain ⟨c0, c1, c2, hcs⟩ := three_of hl
  have q1 : Tryz.prog.cellsOf 3 = 1 := by kernel_rfl
  have q2 : Tryz.prog.cellsOf 23 = 1 := by kernel_rfl
  have hc : (Value.agg cs).cells.toList = [c0, c1, c2] := hcs
  rw [hc] at g0 g1 g2
  simp only [q1, q2] at g0 g1 g2
  have e0 : DataW.trod enc Tryz.prog W base spare held n' 3 [c0] = some y0 := g0
  have e1 : DataW.trod enc Tryz.prog W base spare held n' 23 [c1] = some y1 := g1
  have e2 : DataW.trod enc Tryz.prog W base spare held n' 3 [c2] = some y2 := g2
  obtain ⟨k0, h0, _, _⟩ := DataW.trod_int Tryz.underlying3 e0
  obtain ⟨k1, h1, _, _⟩ := DataW.trod_int Tryz.underlying23 e1
  obtain ⟨k2, h2, _, _⟩ := DataW.trod_int Tryz.underlying3 e2
  simp only [List.cons.injEq, and_true] at h0 h1 h2
  subst h0 h1 h2
  refine ⟨k0, k1, k2, ?_⟩
  have : cs = #[.int .i64 k0, .int .u64 k1, .int .i64 k2] := Array.toList_inj.1 hcs
  rw [this]

end Go.Proofs.YtaaaiggbnkeblaaGreatDoor
