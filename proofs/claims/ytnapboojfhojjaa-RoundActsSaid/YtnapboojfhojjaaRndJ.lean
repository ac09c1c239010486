/-
  The walk of slices.Insert at a slice whose capacity is its length, one element.
-/
import Derived.Test.YtnapboojfhojjaaRndA
import Derived.Lib.AppendZerosOnto
import Derived.Laws.CopyOwn
import Derived.Deep.DeepAppendWide
namespace Go.Proofs.Ytnapboojfhojjaa
open Go.RowKit

def insAt (k : Nat) (y : Int) (xs : List Int) : List Int := xs.take k ++ y :: xs.drop k

def InsPost (w : World) (zs : List Int) (e : Ending) (w' : World) : Prop :=
  ∃ g c, e = .returned (.slice (some ⟨g, 0, none⟩) zs.length c) ∧ w.heap.size ≤ g ∧ g < w'.heap.size ∧ zs.length ≤ c ∧ c ≤ maxLen ∧ (∀ j x, zs[j]? = some x → w'.cell? ⟨g, j, none⟩ = some (.int .i64 x)) ∧ Mod [] w w'

theorem ins_row {α : Type} (Z X1 X2 : List α) (v : α) (k : Nat) (hk : X1.length = k) (hZ : Z.take k = X1) : ∃ E, splice (splice Z k [v]) (k + 1) X2 = X1 ++ v :: X2 ++ E := by
  have h1 : splice Z k [v] = X1 ++ v :: Z.drop (k + 1) := by simp [splice, hZ]
  rw [h1]
  refine ⟨(X1 ++ v :: Z.drop (k + 1)).drop (k + 1 + X2.length), ?_⟩
  unfold splice
  have h2 : (X1 ++ v :: Z.drop (k + 1)).take (k + 1) = X1 ++ [v] := by
    rw [← hk, List.take_append]
    simp
    exact List.take_of_length_le (by omega)
  rw [h2]
  simp

theorem row_cells {w : World} {g : Nat} {zs : List Int} {E : List Value} {t : TypeId} (h : w.heap[g]? = some (.cells (zs.map (Value.int .i64) ++ E).toArray t (0, 0))) (j : Nat) (x : Int) (hj : zs[j]? = some x) : w.cell? ⟨g, j, none⟩ = some (.int .i64 x) := by
  refine cell_in h ?_
  have hl : j < zs.length := (List.getElem?_eq_some_iff.1 hj).1
  simp
  rw [List.getElem?_append_left (by simpa using hl)]
  simp [hj]

set_option maxHeartbeats 4000000 in
theorem insert_end (g b k : Nat) (y : Int) (xs : List Int) (w : World) (hO : OwnInts w g xs) (hb : w.heap[b]? = some (.cells #[.int .i64 y] 3 (0, 0))) (hk : k = xs.length) (hl : xs.length ≤ 1000) :
    Calls Try.prog 26 #[.slice (some ⟨g, 0, none⟩) xs.length xs.length, .int .i64 k, .slice (some ⟨b, 0, none⟩) 1 1] w (InsPost w (insAt k y xs)) := by
  subst hk
  obtain ⟨i, hi, hz, hsz, hby⟩ := info_parts Try.info_int
  obtain ⟨n, hn⟩ : ∃ n, xs.length = n := ⟨_, rfl⟩
  have hsrc : Src Try.prog i.size 26 (.slice (some ⟨b, 0, none⟩) 1 1) 1 [Value.int .i64 y] w :=
    Src.ofSlice w Try.underlying26 _ 1 1 [Value.int .i64 y] (by rw [hsz]; rfl) (fun j u hj => by
      rw [add_lit, Nat.zero_add]
      exact cell_in hb (by simpa using hj)) (by simp [Value.oneCell'])
  have hold : (Builtin.firstCells i.size n (.slice (some ⟨g, 0, none⟩) n n)).run Try.prog w.drew = .ok (xs.map (Value.int .i64)).toArray w.drew :=
    run_firstCells_some w.drew i.size n _ n n _ (by rw [hsz]; simp [hn]) (fun j u hj => by
      rw [add_lit, Nat.zero_add]
      exact cell_in (w := w.drew) hO (by simpa using hj))
  have hfit : Builtin.nextslicecap (n + 1) n * i.bytes ≤ 281474976710656 := by
    have h5 := nextslicecap_le_wide (show n < n + 1 by omega)
    rw [hby]
    omega
  have hrun := fun ty => run_append_grow_src (P := Try.prog) w 26 26 ty 3 i _ Try.underlying26 hi hz (some ⟨g, 0, none⟩) n n _ hold _ 1 [Value.int .i64 y] hsrc (by omega) (by omega) hfit
  have hge := grownCap_ge w (n + 1) n 3
  have hle := grownCap_le_maxLen w (n + 1) n 3 (by unfold maxLen; omega)
  obtain ⟨cc, hcc⟩ : ∃ cc, grownCap w (n + 1) n 3 = cc := ⟨_, rfl⟩
  rw [hcc] at hge hle
  obtain ⟨W1, hW1⟩ : ∃ W1, w.drew.alloc (.cells (((xs.map (Value.int .i64)) ++ [Value.int .i64 y]).toArray ++ Builtin.zeroCells (Value.int .i64 0).cells (grownCap w (n + 1) n 3 - (n + 1))) 3) = W1 := ⟨_, rfl⟩
  have hrow : W1.heap[w.heap.size]? = some (.cells ((insAt n y xs).map (Value.int .i64) ++ (Builtin.zeroCells (Value.int .i64 0).cells (grownCap w (n + 1) n 3 - (n + 1))).toList).toArray 3 (0, 0)) := by
    rw [← hW1]
    have := heap_new w.drew (.cells (((xs.map (Value.int .i64)) ++ [Value.int .i64 y]).toArray ++ Builtin.zeroCells (Value.int .i64 0).cells (grownCap w (n + 1) n 3 - (n + 1))) 3)
    refine Eq.trans this ?_
    congr 2
    unfold insAt
    rw [← hn]
    simp
  have hM : Mod [] w W1 := by rw [← hW1]; exact ((Mod.refl [] w).drew).alloc _
  rw [hW1] at hrun
  rw [hcc] at hrun
  have HRUN := Lib.hid hrun
  have HROW := Lib.hid hrow
  have HM := Lib.hid hM
  have hlen : (insAt n y xs).length = n + 1 := by unfold insAt; simp; omega
  have HLEN := Lib.hid hlen
  rw [hn] at hl ⊢
  clear hrun hrow hM hW1 hcc hold hsrc hfit hO hb hi hz hsz hby hlen hn
  go_enter Try.func26, Try.ntmps26
  go_wp2_with (at_builtin; refine Lib.wpList_append_run _ rfl _ _ _ _ rfl _ _ rfl rfl _ _ (HRUN.out _) ?_)
  go_ret
  exact ⟨w.heap.size, cc, by rw [HLEN.out]; rfl, Nat.le_refl _, (Array.getElem?_eq_some_iff.1 HROW.out).1, by rw [HLEN.out]; exact hge, hle, row_cells HROW.out, HM.out⟩

set_option maxHeartbeats 4000000 in
theorem insert_mid (g b k : Nat) (y : Int) (xs : List Int) (w : World) (hO : OwnInts w g xs) (hb : w.heap[b]? = some (.cells #[.int .i64 y] 3 (0, 0))) (hk : k < xs.length) (hl : xs.length ≤ 1000) :
    Calls Try.prog 26 #[.slice (some ⟨g, 0, none⟩) xs.length xs.length, .int .i64 k, .slice (some ⟨b, 0, none⟩) 1 1] w (InsPost w (insAt k y xs)) := by
  obtain ⟨i, hi, hz, hsz, hby⟩ := info_parts Try.info_int
  obtain ⟨n, hn⟩ : ∃ n, xs.length = n := ⟨_, rfl⟩
  have hgl : g < w.heap.size := (Array.getElem?_eq_some_iff.1 hO).1
  have hbl : b < w.heap.size := (Array.getElem?_eq_some_iff.1 hb).1
  rw [hn] at hk hl
  have hold : (Builtin.firstCells i.size k (.slice (some ⟨g, 0, none⟩) k n)).run Try.prog w.drew = .ok ((xs.take k).map (Value.int .i64)).toArray w.drew :=
    run_firstCells_some w.drew i.size k _ k n _ (by rw [hsz]; simp; omega) (fun j u hj => by
      rw [add_lit, Nat.zero_add]
      refine cell_in (w := w.drew) hO ?_
      have hjk : j < k := by have := (List.getElem?_eq_some_iff.1 hj).1; simp at this; omega
      rw [List.map_take, List.getElem?_take_of_lt hjk] at hj
      simpa using hj)
  have hfit : Builtin.nextslicecap (k + (n + 1 - k)) n * i.bytes ≤ 281474976710656 := by
    have h5 := nextslicecap_le_wide (show n < k + (n + 1 - k) by omega)
    rw [hby]
    omega
  have hrun := fun ty => Lib.run_append_grow_zeros (P := Try.prog) w 26 3 ty 3 i _ .i64 .i64 Try.underlying26 Try.underlying3 hi hz (some ⟨g, 0, none⟩) k n _ hold (n + 1 - k) (by omega) (by omega) (by omega) (by omega) (by rw [hby]; omega) hfit
  have hge := grownCap_ge w (k + (n + 1 - k)) n 3
  have hle := grownCap_le_maxLen w (k + (n + 1 - k)) n 3 (by unfold maxLen; omega)
  rw [show k + (n + 1 - k) = n + 1 by omega] at hrun hge hle
  obtain ⟨cc, hcc⟩ : ∃ cc, grownCap w (n + 1) n 3 = cc := ⟨_, rfl⟩
  rw [hcc] at hge hle hrun
  obtain ⟨W1, hW1⟩ : ∃ W1, w.drew.alloc (.cells (((xs.take k).map (Value.int .i64)).toArray ++ Builtin.zeroCells (Value.int .i64 0).cells (n + 1 - k) ++ Builtin.zeroCells (Value.int .i64 0).cells (cc - (n + 1))) 3) = W1 := ⟨_, rfl⟩
  obtain ⟨Z, hZ⟩ : ∃ Z, ((xs.take k).map (Value.int .i64)) ++ ((Builtin.zeroCells (Value.int .i64 0).cells (n + 1 - k)).toList ++ (Builtin.zeroCells (Value.int .i64 0).cells (cc - (n + 1))).toList) = Z := ⟨_, rfl⟩
  have hrow : W1.heap[w.heap.size]? = some (.cells Z.toArray 3 (0, 0)) := by
    rw [← hW1, ← hZ]
    refine Eq.trans (heap_new w.drew _) ?_
    congr 2
    simp
  have hZk : Z.take k = (xs.take k).map (Value.int .i64) := by
    rw [← hZ, List.take_append_of_le_length (by simp; omega)]
    exact List.take_of_length_le (by simp; omega)
  have hZl : n + 1 ≤ Z.length := by
    rw [← hZ]
    simp [size_zeroCells, Value.cells]
    omega
  have hM : Mod [] w W1 := by rw [← hW1]; exact ((Mod.refl [] w).drew).alloc _
  rw [hW1] at hrun
  have c0 : W1.cell? ⟨b, 0, none⟩ = some (.int .i64 y) := (hM.cell (p := ⟨b, 0, none⟩) hbl (by simp)).trans (cell_in hb rfl)
  have hsl : ((xs.drop k).map (Value.int .i64)).length = n - k := by simp [hn]
  have hsrc : ∀ W, Mod [] w W → ∀ j v, ((xs.drop k).map (Value.int .i64))[j]? = some v → W.cell? ((⟨g, k, none⟩ : Addr).add j) = some v := fun W hW j v hj => by
    rw [add_lit]
    have hc : w.cell? ⟨g, k + j, none⟩ = some v := by
      refine cell_in hO ?_
      rw [List.map_drop, List.getElem?_drop] at hj
      simpa using hj
    exact (hW.cell (p := ⟨g, k + j, none⟩) hgl (by simp)).trans hc
  obtain ⟨E, hE⟩ := ins_row Z ((xs.take k).map (Value.int .i64)) ((xs.drop k).map (Value.int .i64)) (.int .i64 y) k (by simp; omega) hZk
  have hlen : (insAt k y xs).length = n + 1 := by unfold insAt; simp; omega
  have hEE : splice (splice Z k [Value.int .i64 y]) (k + 1) ((xs.drop k).map (Value.int .i64)) = (insAt k y xs).map (Value.int .i64) ++ E := by rw [hE]; simp [insAt]
  rw [show ((n + 1 - k : Nat) : Int) = (n : Int) + 1 - k by omega] at hrun
  have HRUN := Lib.hid hrun
  have HROW := Lib.hid hrow
  have HM := Lib.hid hM
  have HSRC := Lib.hid hsrc
  have HSL := Lib.hid hsl
  have HEE := Lib.hid hEE
  have HZL := Lib.hid hZl
  have HC0 := Lib.hid c0
  have HLEN := Lib.hid hlen
  have hkn : ((k : Int) == (n : Int)) = false := by simp; omega
  rw [hn]
  clear hrun hrow hM hW1 hcc hold hfit hO hb hi hz hsz hby hZk hE hEE hlen hsrc hsl hZl c0 hZ hn
  go_enter Try.func26, Try.ntmps26
  have hmin : ([Value.int .i64 y] : List Value).length = Nat.min 1 (n + 1 - k) := by simp [Nat.min_def]; omega
  have HMIN := Lib.hid hmin
  clear hmin
  go_wp2_with (first | (at_builtin; refine Lib.wpList_append_run _ rfl (.tmp 34) (.tmp 39) 26 3 rfl (.slice (some ⟨g, 0, none⟩) k n) (.int .i64 ((n : Int) + 1 - k)) rfl rfl _ _ (HRUN.out _) ?_) | (with_reducible refine wpList_copy_splice rfl (.tmp 43) (.tmp 44) 26 26 rfl 3 Try.underlying26 Try.size_int (some ⟨w.heap.size, k, none⟩) (some ⟨b, 0, none⟩) (n + 1 - k) (cc - k) 1 1 rfl rfl w.heap.size k Z 3 HROW.out [Value.int .i64 y] HMIN.out ?hpos ?hfit ?h1 w.heap.size w HM.out.below (Nat.le_refl _) ?next))
  case hpos =>
    intro j v hj
    have hj0 : j = 0 := by have := (List.getElem?_eq_some_iff.1 hj).1; simp at this; exact this
    subst hj0
    simp at hj
    rw [← hj]
    exact HC0.out
  case hfit => have := HZL.out; simp; omega
  case h1 => intro v hv; simp at hv; rw [hv]; rfl
  case next =>
    intro w4 hg4 hb4
    have HM4 := Lib.hid (Mod.of_below (S := []) hb4)
    have HBD := Lib.hid ((HM4.out.drew).below)
    have hn2 : ((xs.drop k).map (Value.int .i64)).length = Nat.min (n - k) (n - k) := by rw [HSL.out]; simp
    have hpos2 : 0 < ((xs.drop k).map (Value.int .i64)).length → (some (⟨w.heap.size, k + 1, none⟩ : Addr) = some ⟨w.heap.size, k + 1, none⟩ ∧ ∃ ad, some (⟨g, k, none⟩ : Addr) = some ad ∧ ∀ j v, ((xs.drop k).map (Value.int .i64))[j]? = some v → w4.drew.cell? (ad.add j) = some v) :=
      fun _ => ⟨rfl, _, rfl, HSRC.out w4.drew HM4.out.drew⟩
    have hfit2 : k + 1 + ((xs.drop k).map (Value.int .i64)).length ≤ (splice Z k [Value.int .i64 y]).length := by
      rw [length_splice _ _ _ (by have := HZL.out; simp; omega), HSL.out]
      have := HZL.out
      omega
    have HN2 := Lib.hid hn2
    have HF2 := Lib.hid hfit2
    clear hn2 hpos2 hfit2 hb4
    have hcm : cc ≤ 9223372036854775807 := by simpa [maxLen] using hle
    have hc1 : ¬ cc = k + 1 := by omega
    have hc2 : ¬ cc - (k + 1) = 0 := by omega
    have hn3 : ¬ n = k := by omega
    have hn4 : ¬ n - k = 0 := by omega
    have hkn2 : k ≤ n := by omega
    have hk0 : (0 : Int) ≤ (k : Int) + 1 := by omega
    have hk00 : (0 : Int) ≤ (k : Int) := by omega
    have hkw : wrap64 ((k : Int) + 1) = (k : Int) + 1 := wrap_small (by omega) (by omega)
    have hkw2 : IntKind.i64.wrap ((k : Int) + 1) = (k : Int) + 1 := by simp [IntKind.wrap, IntKind.bits, IntKind.signed]; omega
    go_wp2_with fail
    go_region_law (refine step_copy_splice rfl (.tmp 50) (.tmp 53) 26 26 rfl 3 Try.underlying26 Try.size_int (some ⟨w.heap.size, k + 1, none⟩) (some ⟨g, k, none⟩) (n - k) (cc - (k + 1)) (n - k) (n - k) (by simp [Act.eval, Act.put]) (by simp [Act.eval, Act.put]) w.heap.size (k + 1) (splice Z k [Value.int .i64 y]) 3 hg4.out ((xs.drop k).map (Value.int .i64)) (by rw [HSL.out]; simp) (fun _ => ⟨rfl, _, rfl, fun j v hj => HSRC.out w4.drew HM4.out.drew j v hj⟩) HF2.out (ints_oneCell _ _) w.heap.size w HBD.out (Nat.le_refl _) ?_; intro w5 hg5 hb5)
    all_goals
      have HM5 := Lib.hid (Mod.of_below (S := []) hb5)
      have hg6 := hg5.out
      rw [HEE.out] at hg6
      have HG6 := Lib.hid hg6
      clear hg6 hg5 hb5
      go_wp2_with fail
      go_ret
      exact ⟨w.heap.size, cc, by rw [HLEN.out]; rfl, Nat.le_refl _, (Array.getElem?_eq_some_iff.1 HG6.out).1, by rw [HLEN.out]; exact hge, hle, row_cells HG6.out, HM5.out⟩

theorem insert_any (g b k : Nat) (y : Int) (xs : List Int) (w : World) (hO : OwnInts w g xs) (hb : w.heap[b]? = some (.cells #[.int .i64 y] 3 (0, 0))) (hk : k ≤ xs.length) (hl : xs.length ≤ 1000) :
    Calls Try.prog 26 #[.slice (some ⟨g, 0, none⟩) xs.length xs.length, .int .i64 k, .slice (some ⟨b, 0, none⟩) 1 1] w (InsPost w (insAt k y xs)) := by
  by_cases h : k = xs.length
  · exact insert_end g b k y xs w hO hb h hl
  · exact insert_mid g b k y xs w hO hb (by omega) hl

end Go.Proofs.Ytnapboojfhojjaa
