/-
  What the Top laws' proofs share: the table that is laid, as the walks take it.
-/
import Derived.Test.YtggaaemldcdeiaaGreatDoorTopA
import Derived.Test.YtggaaemldcdeiaaGreatDoorFrame
import Derived.ProofKit
import Derived.LaidMore
import Derived.OpenShut
import Derived.MakeChecks
import Derived.Stop.Joined
namespace Go.Proofs.YtggaaemldcdeiaaGreatDoor
set_option linter.unusedSimpArgs false
set_option linter.unusedVariables false
open Go.ChangeShapes Go.WideShapes Go.ChangeAt Go.RowKit

theorem gTab : Tryz.prog.globalNamed "math/bits.deBruijn64tab" = some 0 := by kernel_rfl
theorem tTab : (Tryz.prog.globals[0]?).map (·.type) = some 225 := by kernel_rfl
theorem cTab : Tryz.prog.cellsOf 225 = 64 := by kernel_rfl
theorem cU8 : Tryz.prog.cellsOf 5 = 1 := by kernel_rfl
theorem laidTab_eq : (Rows.laid_math_bits_deBruijn64tab : DataW Unit) = .agg (deB.map fun (n : Nat) => .lit (.int .u8 (n : Int))) := rfl
def laidT : List (String × DataW Unit) := [("math/bits.deBruijn64tab", Rows.laid_math_bits_deBruijn64tab)]

/-- The door's own heap meets the condition. -/
theorem door_met (os : Os) (args : Array Value) : laidMetH Tryz.prog laidT ((World.doorLaid Tryz.prog 400 os).forCall (fun _ _ => 0) ⟨#[], args, []⟩).memory :=
  laidMetH_of_parts3 (fuel := 8) (laidMet_of_run' 8 (by kernel_rfl) (by kernel_rfl)) (by kernel_rfl) (by kernel_rfl)

theorem tab_of_laid {W : World} (h : laidMetH Tryz.prog laidT W) : Tab W := by
  rw [MakeChecks.laidMetH_plain _ _ _ (by kernel_rfl)] at h
  obtain ⟨ps, ⟨g0, t0, cs0, f0, p0, q0, hg0, ht0, hv0, hd0, _, _⟩, _, _⟩ := h
  obtain rfl := Option.some.inj (gTab.symm.trans hg0)
  obtain rfl := Option.some.inj (tTab.symm.trans ht0)
  obtain ⟨xs, m1, rfl, hx, hlen, hn, hel⟩ := DataW.trod_array Tryz.underlying225 hd0
  rw [cTab] at hlen
  have hcell : ∀ j x, deB[j]? = some x → W.cell? ⟨0, j, none⟩ = some (.int .u8 (x : Nat)) := fun j x hj => by
    have hj64 : j < 64 := (List.getElem?_eq_some_iff.1 hj).1
    have h0 := hel j hj64
    rw [cU8, Nat.mul_one] at h0
    have hjc : j < cs0.toList.length := by omega
    obtain ⟨c, hc⟩ : ∃ c, cs0.toList[j]? = some c := ⟨_, List.getElem?_eq_getElem hjc⟩
    have e1 : (cs0.toList.drop j).take 1 = [c] := by
      rw [List.getElem?_eq_getElem hjc] at hc
      rw [List.drop_eq_getElem_cons hjc, Option.some.inj hc]
      rfl
    rw [e1] at h0
    have hjx : j < xs.length := by omega
    rw [List.getElem?_eq_getElem hjx] at h0
    obtain ⟨k, e2, e3, _⟩ := DataW.trod_int Tryz.underlying5 h0
    have e4 : (deB.map fun (n : Nat) => (DataW.lit (.int .u8 (n : Int)) : DataW Unit)) = xs.map (·.1) := by
      have := congrArg Prod.fst hx
      rw [laidTab_eq] at this
      simpa using this
    have e5 : (deB.map fun (n : Nat) => (DataW.lit (.int .u8 (n : Int)) : DataW Unit))[j]? = (xs.map (·.1))[j]? := by rw [e4]
    rw [List.getElem?_map, List.getElem?_map, hj, List.getElem?_eq_getElem hjx] at e5
    simp only [Option.map_some, Option.some.injEq] at e5
    rw [e3] at e5
    have e6 : (x : Int) = k := by simpa using e5
    rw [World.var?_cell hg0 hv0 j]
    have e7 : cs0[j]? = some c := by simpa using hc
    rw [e7]
    have e8 : c = .int .u8 k := by simpa using e2
    rw [e8, e6]
  exact ⟨cell_lt (hcell 0 0 rfl), hcell⟩

end Go.Proofs.YtggaaemldcdeiaaGreatDoor
