/-
  Plain: what Shuffle answers has the same numbers, as often.
-/
import Derived.Test.YtnapboojfhojjaaRndA
namespace Go.Proofs.Ytnapboojfhojjaa

theorem swapAt_count (l : List Int) (i k : Nat) (hi : i < l.length) (hk : k < l.length) (x : Int) : (swapAt l i k).count x = l.count x := by
  unfold swapAt
  have h1 : l.getD k 0 = l[k] := by simp [List.getD, hk]
  have h2 : l.getD i 0 = l[i] := by simp [List.getD, hi]
  rw [h1, h2, List.count_set (by simpa using hk), List.count_set hi, List.getElem_set]
  have p1 : 0 < l.count l[i] := List.count_pos_iff.2 (List.getElem_mem hi)
  have p2 : 0 < l.count l[k] := List.count_pos_iff.2 (List.getElem_mem hk)
  by_cases e : i = k
  · subst e
    by_cases e1 : l[i] = x
    · subst e1; simp
    · simp [e1]
  · by_cases e1 : l[i] = x <;> by_cases e2 : l[k] = x
    · subst e1; simp [e, e2]
    · subst e1; simp [e, e2]
    · subst e2; simp [e, e1]
    · simp [e, e1, e2]

theorem shufLoop_count : ∀ (i : Nat) (out ls : List Int), (i < out.length ∨ i = 0) → ∀ x, (shufLoop i out ls).1.count x = out.count x
  | 0, _, _, _, _ => rfl
  | i + 1, out, ls, h, x => by
    have hi : i + 1 < out.length := by omega
    have hb := lotBelow_range ls ((i : Int) + 2)
    have hb2 := hb.2 (by omega)
    rw [shufLoop, shufLoop_count i _ _ (by simp [swapAt]; omega), swapAt_count _ _ _ hi (by omega)]

theorem shufOut_count (xs ls : List Int) (x : Int) : (shufOut xs ls).count x = xs.count x :=
  shufLoop_count _ _ _ (by omega) x

theorem shufOut_mem {xs ls : List Int} {x : Int} (h : x ∈ shufOut xs ls) : x ∈ xs :=
  List.count_pos_iff.1 (by rw [← shufOut_count xs ls x]; exact List.count_pos_iff.2 h)

theorem shufOut_perm' (xs ls : List Int) : (shufOut xs ls).Perm xs := List.perm_iff_count.2 fun x => shufOut_count xs ls x

end Go.Proofs.Ytnapboojfhojjaa
