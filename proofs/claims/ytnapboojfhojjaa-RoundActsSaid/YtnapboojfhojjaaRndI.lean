/-
  The walk of slices.DeleteFunc at Helpers' closure.
-/
import Derived.Test.YtnapboojfhojjaaRndH
namespace Go.Proofs.Ytnapboojfhojjaa
open Go.RowKit

def without (x : Int) (xs : List Int) : List Int := xs.filter fun y => !(y == x)

theorem without_yes {x : Int} {xs : List Int} {j : Nat} (h : xs[j]? = some x) : without x (xs.take (j + 1)) = without x (xs.take j) := by
  unfold without
  rw [List.take_add_one, h, List.filter_append]
  simp
theorem without_no {x y : Int} {xs : List Int} {j : Nat} (h : xs[j]? = some y) (hne : (y == x) = false) : without x (xs.take (j + 1)) = without x (xs.take j) ++ [y] := by
  unfold without
  rw [List.take_add_one, h, List.filter_append]
  simp at hne
  simp [hne]
theorem without_none {x : Int} {xs : List Int} (h : x ∉ xs) : without x xs = xs := by
  unfold without
  rw [List.filter_eq_self]
  intro y hy
  simp
  intro e
  rw [e] at hy
  exact h hy
theorem without_lt {x : Int} {xs : List Int} (h : x ∈ xs) : (without x xs).length < xs.length := by
  unfold without
  induction xs with
  | nil => cases h
  | cons y l ih =>
    by_cases e : y = x
    · subst e
      have := List.length_filter_le (fun z => !(z == y)) l
      simp
      omega
    · have hx : x ∈ l := by
        rcases List.mem_cons.1 h with h | h
        · exact absurd h.symm e
        · exact h
      simp [e]
      exact hx

theorem setCells_size (b : Nat) : ∀ (vs : List Value) (o : Nat) (w : World), (w.setCells b o vs).heap.size = w.heap.size
  | [], _, _ => rfl
  | v :: r, o, w => by rw [World.setCells, setCells_size b r]; simp [World.setCell]
theorem setCells_other (b : Nat) : ∀ (vs : List Value) (o : Nat) (w : World) (k : Nat), k ≠ b → (w.setCells b o vs).heap[k]? = w.heap[k]?
  | [], _, _, _, _ => rfl
  | v :: r, o, w, k, h => by rw [World.setCells, setCells_other b r _ _ k h]; exact Below.heap_setCell _ _ _ _ h
theorem setCells_os (b : Nat) : ∀ (vs : List Value) (o : Nat) (w : World), (w.setCells b o vs).os = w.os
  | [], _, _ => rfl
  | v :: r, o, w => by rw [World.setCells, setCells_os b r]; rfl
theorem setCells_tape (b : Nat) : ∀ (vs : List Value) (o : Nat) (w : World), (w.setCells b o vs).tape = w.tape
  | [], _, _ => rfl
  | v :: r, o, w => by rw [World.setCells, setCells_tape b r]; rfl
theorem setCells_output (b : Nat) : ∀ (vs : List Value) (o : Nat) (w : World), (w.setCells b o vs).output = w.output
  | [], _, _ => rfl
  | v :: r, o, w => by rw [World.setCells, setCells_output b r]; rfl

def DelPost (w : World) (B : Nat) (ys : List Int) (e : Ending) (w' : World) : Prop :=
  ∃ a c, e = .returned (.slice a ys.length c) ∧ RdInts .i64 w' a ys ∧ (a = none → c = 0) ∧ (∀ ad, a = some ad → B ≤ ad.block) ∧ ∃ S, Mod S w w' ∧ ∀ s ∈ S, B ≤ s

def DelRel (w : World) (g : Nat) (x : Int) (xs : List Int) (v u : Value) (wr : World) : Prop :=
  ∃ j : Nat, u = .int .i64 j ∧ v = .int .i64 ((without x (xs.take j)).length : Nat) ∧ j ≤ xs.length ∧ x ∈ xs.take j ∧ (∀ t y, (without x (xs.take j))[t]? = some y → wr.cell? ⟨g, t, none⟩ = some (.int .i64 y)) ∧
    (∀ t y, j ≤ t → xs[t]? = some y → wr.cell? ⟨g, t, none⟩ = some (.int .i64 y)) ∧ (∀ t, t < xs.length → (wr.cell? ⟨g, t, none⟩).isSome = true) ∧ (∀ t, wr.frozen? ⟨g, t, none⟩ = false) ∧ Mod [g] w wr

set_option maxHeartbeats 4000000 in
theorem delete_some (p g c B : Nat) (x : Int) (xs : List Int) (w : World) (hp : w.cell? ⟨p, 0, none⟩ = some (.int .i64 x)) (hpg : p ≠ g) (hgB : B ≤ g) (hcell : ∀ t y, xs[t]? = some y → w.cell? ⟨g, t, none⟩ = some (.int .i64 y)) (hfree : ∀ t, w.frozen? ⟨g, t, none⟩ = false) (hgl : g < w.heap.size) (hc : xs.length ≤ c) (hcm : c ≤ maxLen) (hl : xs.length ≤ 1000000) :
    Calls Try.prog 28 #[.slice (some ⟨g, 0, none⟩) xs.length c, .func (.func 30) #[] #[.pointer (some ⟨p, 0, none⟩)]] w (DelPost w B (without x xs)) := by
  have hrd : RdInts .i64 w (some ⟨g, 0, none⟩) xs := fun _ => ⟨_, rfl, hgl, fun j y hj => by rw [add_lit, Nat.zero_add]; exact hcell j y hj⟩
  have hpl := block_lt_of_cell hp
  have HP := Lib.hid hp
  have HC := Lib.hid hcell
  have HF := Lib.hid hfree
  have HRD := Lib.hid hrd
  have hcm' : c ≤ 9223372036854775807 := by simpa [maxLen] using hcm
  clear hp hcell hfree hrd hcm
  obtain ⟨n, hn⟩ : ∃ n, xs.length = n := ⟨_, rfl⟩
  have hidx := indexdel_any p x (some ⟨g, 0, none⟩) c xs w HP.out HRD.out (by omega)
  rw [hn] at hidx hc hl ⊢
  have HIDX := Lib.hid hidx
  have HN := Lib.hid hn
  clear hidx hn
  go_enter Try.func28, Try.ntmps28
  go_wp2_with fail
  refine HIDX.out.mono ?_
  rintro e w1 ⟨⟨i, rfl, hi⟩, rfl⟩
  rcases hi with ⟨rfl, hno⟩ | ⟨k, rfl, hk, hno⟩
  · have HNO := Lib.hid (without_none hno)
    clear hno
    go_wp2_with fail
    go_ret
    rw [HNO.out]
    exact ⟨some ⟨g, 0, none⟩, c, by rw [HN.out]; rfl, HRD.out, fun h => (by cases h), fun ad h => (by injection h with h; rw [← h]; exact hgB), [], Mod.refl _ _, by simp⟩
  · have hkn : k < n := by rw [← HN.out]; exact (List.getElem?_eq_some_iff.1 hk).1
    have hw1 : without x (xs.take (k + 1)) = xs.take k := by rw [without_yes hk, without_none hno]
    have hkl : (xs.take k).length = k := by rw [List.length_take]; have := HN.out; omega
    have hmem : x ∈ xs.take (k + 1) := by rw [List.take_add_one, hk]; simp
    have hk1 : ((k : Int) == -1) = false := by simp
    have HW1 := Lib.hid (And.intro hw1 (And.intro hkl hmem))
    clear hk hno hw1 hkl hmem HIDX
    go_wp2_with fail
    go_loopw [5, 6] (fun v u wr => DelRel w g x xs v u wr) (fun _ u _ => n - (intOf u).toNat)
    case atStart =>
      refine ⟨k + 1, by go_num, ?_, by have := HN.out; omega, HW1.out.2.2, ?_, fun t y _ hy => HC.out t y hy, ?_, HF.out, Mod.refl _ _⟩
      · rw [HW1.out.1, HW1.out.2.1]
      · rw [HW1.out.1]
        intro t y hy
        have hlt : t < k := by have := (List.getElem?_eq_some_iff.1 hy).1; rw [HW1.out.2.1] at this; exact this
        rw [List.getElem?_take_of_lt hlt] at hy
        exact HC.out t y hy
      · intro t ht
        rw [HC.out t xs[t] (List.getElem?_eq_getElem ht)]
        rfl
    case round =>
      obtain ⟨j, rfl, rfl, hj, hmem, f1, f2, f3, f4, hM⟩ := hrel
      obtain ⟨q, hq⟩ : ∃ q, (without x (xs.take j)).length = q := ⟨_, rfl⟩
      have hqj : q < j := by
        have := without_lt hmem
        rw [hq, List.length_take] at this
        omega
      have HF1 := Lib.hid f1
      have HF2 := Lib.hid f2
      have HF3 := Lib.hid f3
      have HF4 := Lib.hid f4
      have HM := Lib.hid hM
      have HQ := Lib.hid hq
      have HME := Lib.hid hmem
      have hfq := f4 q
      rw [hq]
      rw [HN.out] at hj
      clear f1 f2 f3 f4 hM hq hmem
      by_cases hlt : (j : Int) < (n : Int)
      · obtain ⟨y, hy⟩ : ∃ y, xs[j]? = some y := ⟨_, List.getElem?_eq_getElem (by have := HN.out; omega)⟩
        have cy := HF2.out j y (Nat.le_refl _) hy
        have HPr := Lib.hid ((HM.out.cell (p := ⟨p, 0, none⟩) hpl (by simpa using hpg)).trans HP.out)
        obtain ⟨u, hu⟩ := Option.isSome_iff_exists.1 (HF3.out q (by have := HN.out; omega))
        have HY := Lib.hid hy
        have HMM := Lib.hid (show x ∈ xs.take (j + 1) by rw [List.take_add_one]; exact List.mem_append_left _ HME.out)
        clear hy
        by_cases hyx : y = x
        · have HE := Lib.hid (show (y == x) = true by simp [hyx])
          have HWy := Lib.hid (without_yes (x := x) (show xs[j]? = some x by rw [HY.out, hyx]))
          clear hyx
          go_wp2_with fail
          refine (del_is p x y true _ HPr.out HE.out).mono ?_
          rintro e w2 ⟨rfl, rfl⟩
          go_wp2_with fail
          go_roundw
          case rel => exact ⟨j + 1, by go_num, by rw [HWy.out, HQ.out], by rw [HN.out]; omega, HMM.out, by rw [HWy.out]; exact HF1.out, fun t z ht hz => HF2.out t z (by omega) hz, HF3.out, HF4.out, HM.out⟩
          case measure => simp [intOf]; omega
        · have hyq : (y == x) = false := by simpa using hyx
          have HE := Lib.hid hyq
          have HWy := Lib.hid (without_no HY.out hyq)
          clear hyx hyq
          go_wp2_with fail
          refine (del_is p x y false _ HPr.out HE.out).mono ?_
          rintro e w2 ⟨rfl, rfl⟩
          go_wp2_with fail
          go_roundw
          case rel =>
            refine ⟨j + 1, by go_num, ?_, by rw [HN.out]; omega, HMM.out, ?_, ?_, ?_, ?_, HM.out.setCell (.inl (by simp)) _⟩
            · rw [HWy.out, List.length_append, HQ.out]
              go_num
            · rw [HWy.out]
              intro t z hz
              by_cases htq : t = q
              · subst htq
                rw [List.getElem?_append_right (by rw [HQ.out]; exact Nat.le_refl _), HQ.out] at hz
                simp at hz
                subst hz
                exact cell_set_same hu
              · have hl2 : t < q := by
                  have := (List.getElem?_eq_some_iff.1 hz).1
                  rw [List.length_append, HQ.out] at this
                  simp at this
                  omega
                rw [List.getElem?_append_left (by rw [HQ.out]; exact hl2)] at hz
                exact (cell_set_off _ _ _ _ (by simp; omega)).trans (HF1.out t z hz)
            · intro t z ht hz
              exact (cell_set_off _ _ _ _ (by simp; omega)).trans (HF2.out t z (by omega) hz)
            · intro t ht
              by_cases htq : t = q
              · subst htq
                rw [cell_set_same hu]
                rfl
              · rw [cell_set_off _ _ _ _ (by simp; omega)]
                exact HF3.out t ht
            · intro t
              exact (World.frozen?_setCell _ _ _ _).trans (HF4.out t)
          case measure => simp [intOf]; omega
      · have hjn : j = n := by omega
        subst hjn
        have hclr := fun ty => Lib.run_clear_slice (P := Try.prog) wr 26 3 ty (.int .i64 0) Try.underlying26 (fun w => by kernel_rfl) rfl rfl g q (j - q) (c - q) (by omega) (fun t ht => HF3.out (q + t) (by have := HN.out; omega)) (fun t ht => HF4.out (q + t))
        have hall : xs.take j = xs := List.take_of_length_le (by rw [HN.out]; exact Nat.le_refl _)
        have HALL := Lib.hid hall
        clear hall
        go_wp2_with fail
        go_ret
        have hq2 : (without x xs).length = q := by have := HQ.out; rw [HALL.out] at this; exact this
        have hf1 := HF1.out
        rw [HALL.out] at hf1
        have hcells : ∀ t y, (without x xs)[t]? = some y → (wr.setCells g q (List.replicate (j - q) (Value.int .i64 0))).cell? ⟨g, t, none⟩ = some (.int .i64 y) := fun t y hy => by
          have hlt2 : t < q := by rw [← hq2]; exact (List.getElem?_eq_some_iff.1 hy).1
          rw [World.cell?_setCells_out g _ q wr ⟨g, t, none⟩ (fun _ _ => Or.inl hlt2)]
          exact hf1 t y hy
        have hsz := setCells_size g (List.replicate (j - q) (Value.int .i64 0)) q wr
        refine ⟨some ⟨g, 0, none⟩, c, by rw [hq2]; rfl, fun _ => ⟨_, rfl, ?_, fun t y hy => by rw [add_lit, Nat.zero_add]; exact hcells t y hy⟩, fun h => (by cases h), fun ad h => (by injection h with h; rw [← h]; exact hgB), [g], ?_, by simpa using hgB⟩
        · rw [hsz]
          exact Nat.lt_of_lt_of_le hgl HM.out.size
        · refine HM.out.trans ⟨?_, ?_, ?_, by rw [hsz]; exact Nat.le_refl _, fun k _ hk => setCells_other g _ q wr k (by simpa using hk)⟩
          · exact setCells_os g _ q wr
          · exact setCells_tape g _ q wr
          · exact setCells_output g _ q wr

end Go.Proofs.Ytnapboojfhojjaa
