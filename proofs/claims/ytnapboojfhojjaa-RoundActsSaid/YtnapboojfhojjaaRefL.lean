/-
  The walks of conventicleref03.Lots beside round's: Left, Next, Below, Shuffle, Some.
-/
import Derived.Test.YtnapboojfhojjaaRndS
import Derived.Test.YtnapboojfhojjaaLotL
namespace Go.Proofs.Ytnapboojfhojjaa
open Go.RowKit

/-- A reference's Lots at block d: what is left are ls; its list lies below block B. -/
def RefLots (w : World) (d B : Nat) (ls : List Int) : Prop :=
  ∃ (a : Option Addr) (c : Nat) (xs : List Int) (i : Nat), w.cell? ⟨d, 0, none⟩ = some (.slice a xs.length c) ∧ w.cell? ⟨d, 1, none⟩ = some (.int .i64 i) ∧ w.frozen? ⟨d, 1, none⟩ = false ∧ i ≤ xs.length ∧ xs.length < 4611686018427387904 ∧
    (xs ≠ [] → ∃ b o, a = some ⟨b, o, none⟩ ∧ b < B ∧ ∀ j x, xs[j]? = some x → w.cell? ⟨b, o + j, none⟩ = some (.int .u64 x)) ∧ (∀ x ∈ xs, 0 ≤ x ∧ x ≤ 18446744073709551615) ∧ B ≤ d ∧ xs.drop i = ls

theorem RefLots.lt {w : World} {d B : Nat} {ls : List Int} (h : RefLots w d B ls) : d < w.heap.size ∧ B ≤ d := by
  obtain ⟨a, c, xs, i, h1, h2, h3, h4, h5, h6, h7, h8, h9⟩ := h
  refine ⟨?_, h8⟩
  unfold World.cell? at h1
  rcases Nat.lt_or_ge d w.heap.size with h | h
  · exact h
  · rw [Array.getElem?_eq_none h] at h1
    cases h1

theorem RefLots.mod {w w' : World} {d B : Nat} {ls : List Int} {S : List Nat} (h : RefLots w d B ls) (hm : Mod S w w') (hd : d ∉ S) (hs : ∀ s ∈ S, B ≤ s) : RefLots w' d B ls := by
  have hlt := h.lt
  obtain ⟨a, c, xs, i, h1, h2, h3, h4, h5, h6, h7, h8, h9⟩ := h
  refine ⟨a, c, xs, i, (hm.cell hlt.1 hd).trans h1, (hm.cell hlt.1 hd).trans h2, (hm.frozen hlt.1 hd).trans h3, h4, h5, fun hx => ?_, h7, h8, h9⟩
  obtain ⟨b, o, g1, g2, g3⟩ := h6 hx
  refine ⟨b, o, g1, g2, fun j x hj => ?_⟩
  rw [hm.cell (by simp; omega) (by intro hb; have := hs _ hb; simp at this; omega)]
  exact g3 j x hj

theorem RefLots.cong {w : World} {d B : Nat} {xs ys : List Int} (h : RefLots w d B xs) (e : xs = ys) : RefLots w d B ys := e ▸ h

theorem RefLots.range {w : World} {d B : Nat} {ls : List Int} (h : RefLots w d B ls) : 0 ≤ ls.headD 0 ∧ ls.headD 0 ≤ 18446744073709551615 := by
  obtain ⟨a, c, xs, i, h1, h2, h3, h4, h5, h6, h7, h8, h9⟩ := h
  subst h9
  cases hl : xs.drop i with
  | nil => simp
  | cons x r => exact h7 x (List.mem_of_mem_drop (i := i) (by rw [hl]; simp))

set_option maxHeartbeats 1000000 in
theorem kleft_any (d B : Nat) (ls : List Int) (w : World) (h : RefLots w d B ls) :
    Calls Try.prog 15 #[.pointer (some ⟨d, 0, none⟩)] w fun e w' => e = .returned (.int .i64 ls.length) ∧ w.drew = w' := by
  obtain ⟨a, c, xs, i, h1, h2, h3, h4, h5, h6, h7, h8, h9⟩ := h
  have hl : ((xs.length : Int) - i) = ls.length := by rw [← h9]; simp; omega
  have HL := Lib.hid hl
  clear h3 h6 h7 h8 h9 hl
  go_enter Try.func15, Try.ntmps15
  go_wp2
  go_region
  go_wp2
  go_ret
  exact ⟨ret_int HL.out, rfl⟩

theorem kleft_is (d B m : Nat) (ls : List Int) (w : World) (h : RefLots w d B ls) (hm : ls.length = m) :
    Calls Try.prog 15 #[.pointer (some ⟨d, 0, none⟩)] w fun e w' => e = .returned (.int .i64 (m : Int)) ∧ w.drew = w' :=
  hm ▸ kleft_any d B ls w h

set_option maxHeartbeats 1000000 in
theorem knext_nil (d B : Nat) (w : World) (h : RefLots w d B []) :
    Calls Try.prog 38 #[.pointer (some ⟨d, 0, none⟩)] w fun e w' => e = .returned (.int .u64 0) ∧ w.drew = w' := by
  have H := Lib.hid h
  clear h
  go_enter Try.func38, Try.ntmps38
  go_wp2_with fail
  refine (kleft_is d B 0 [] _ H.out rfl).mono ?_
  rintro e w1 ⟨rfl, rfl⟩
  go_wp2_with fail
  go_ret
  exact ⟨rfl, rfl⟩

set_option maxHeartbeats 1000000 in
theorem knext_cons (d B : Nat) (y : Int) (ls : List Int) (w : World) (h : RefLots w d B (y :: ls)) :
    Calls Try.prog 38 #[.pointer (some ⟨d, 0, none⟩)] w fun e w' => e = .returned (.int .u64 y) ∧ RefLots w' d B ls ∧ Mod [d] w w' := by
  have H := Lib.hid h
  obtain ⟨a, c, xs, i, h1, h2, h3, h4, h5, h6, h7, h8, h9⟩ := h
  have hi : i < xs.length := by
    rcases Nat.lt_or_ge i xs.length with h | h
    · exact h
    · rw [List.drop_of_length_le h] at h9; cases h9
  obtain ⟨b, o, rfl, hb, hc⟩ := h6 (by intro e; rw [e] at hi; simp at hi)
  rw [List.drop_eq_getElem_cons hi] at h9
  injection h9 with h9 h9'
  have hx : xs[i]? = some y := by rw [List.getElem?_eq_getElem hi, h9]
  have hci := hc i y hx
  have HC := Lib.hid hc
  have H7 := Lib.hid h7
  have H9 := Lib.hid h9'
  have HNE := Lib.hid (show d ≠ b by omega)
  have hcs : (w.setCell ⟨d, 1, none⟩ (.int .i64 ((i : Int) + 1))).cell? ⟨b, o + i, none⟩ = some (.int .u64 y) := (cell_set_far _ _ _ _ (by simp; omega)).trans hci
  clear hc h7 h9 h9' hx h6
  go_enter Try.func38, Try.ntmps38
  go_wp2_with fail
  refine (kleft_is d B (ls.length + 1) (y :: ls) _ H.out rfl).mono ?_
  rintro e w1 ⟨rfl, rfl⟩
  have hz : (((ls.length + 1 : Nat) : Int) == 0) = false := by simp; omega
  go_wp2_with fail
  go_region
  go_wp2
  go_ret
  refine ⟨rfl, ⟨some ⟨b, o, none⟩, c, xs, i + 1, ?_, ?_, ?_, by omega, h5, fun _ => ⟨b, o, rfl, hb, fun j x hj => ?_⟩, H7.out, h8, H9.out⟩, ?_⟩
  · exact (cell_set_off _ _ _ _ (by simp)).trans h1
  · exact (cell_set_same h2).trans (by simp)
  · simpa using h3
  · exact (cell_set_far _ _ _ _ (by simpa using HNE.out)).trans (HC.out j x hj)
  · exact ((Mod.refl _ _).setCell (by simp) _).drew.drew

theorem knext_any (d B : Nat) (ls : List Int) (w : World) (h : RefLots w d B ls) :
    Calls Try.prog 38 #[.pointer (some ⟨d, 0, none⟩)] w fun e w' => e = .returned (.int .u64 (ls.headD 0)) ∧ RefLots w' d B ls.tail ∧ Mod [d] w w' := by
  cases ls with
  | nil => exact (knext_nil d B w h).mono fun e w' ⟨he, hw⟩ => ⟨he, hw ▸ h.mod ((Mod.refl [] _).drew) (by simp) (by simp), hw ▸ (Mod.refl _ _).drew⟩
  | cons x xs => exact knext_cons d B x xs w h

theorem knext_is (d B : Nat) (ls : List Int) (y : Int) (w : World) (h : RefLots w d B ls) (hy : ls.headD 0 = y) :
    Calls Try.prog 38 #[.pointer (some ⟨d, 0, none⟩)] w fun e w' => e = .returned (.int .u64 y) ∧ RefLots w' d B ls.tail ∧ Mod [d] w w' :=
  hy ▸ knext_any d B ls w h

set_option maxHeartbeats 400000 in
theorem kbelow_small (p : Value) (n : Int) (w : World) (hn : n < 2) :
    Calls Try.prog 27 #[p, .int .i64 n] w fun e w' => e = .returned (.int .i64 0) ∧ w = w' := by
  go_enter Try.func27, Try.ntmps27
  go_wp2
  go_ret
  exact ⟨rfl, rfl⟩

set_option maxHeartbeats 400000 in
theorem kbelow_big (d B : Nat) (xs : List Int) (n : Int) (w : World) (h : RefLots w d B xs) (hn : 2 ≤ n) (hn2 : n ≤ 9223372036854775807) :
    Calls Try.prog 27 #[.pointer (some ⟨d, 0, none⟩), .int .i64 n] w fun e w' => e = .returned (.int .i64 (xs.headD 0 % n)) ∧ RefLots w' d B xs.tail ∧ Mod [d] w w' := by
  obtain ⟨r1, r2⟩ := h.range
  have H := Lib.hid h
  clear h
  generalize hy : xs.headD 0 = y at *
  have HY := Lib.hid hy
  clear hy
  go_enter Try.func27, Try.ntmps27
  go_wp2_with (go_at_call 38; refine (knext_is d B xs y _ H.out HY.out).mono ?_; rintro e w1 ⟨rfl, hL, hM⟩)
  go_ret
  refine ⟨ret_int (wrap_small (Int.emod_nonneg _ (by omega)) ?_), hL, hM⟩
  have := Int.emod_lt_of_pos y (show 0 < n by omega)
  omega

theorem kbelow_any (d B : Nat) (xs : List Int) (n : Int) (w : World) (h : RefLots w d B xs) (hn2 : n ≤ 9223372036854775807) :
    Calls Try.prog 27 #[.pointer (some ⟨d, 0, none⟩), .int .i64 n] w fun e w' => e = .returned (.int .i64 (lotBelow xs n)) ∧ RefLots w' d B (lotRest xs n) ∧ Mod [d] w w' := by
  unfold lotBelow lotRest
  by_cases hn : n < 2
  · rw [if_pos hn, if_pos hn]
    exact (kbelow_small _ n w hn).mono fun e w' ⟨he, hw⟩ => ⟨he, hw ▸ h, hw ▸ Mod.refl _ _⟩
  · rw [if_neg hn, if_neg hn]
    exact kbelow_big d B xs n w h (by omega) hn2

theorem kbelow_is (d B : Nat) (xs : List Int) (m n : Int) (k : Nat) (w : World) (h : RefLots w d B xs) (hn2 : n ≤ 9223372036854775807) (hm : m = n) (hk : lotBelow xs n = k) :
    Calls Try.prog 27 #[.pointer (some ⟨d, 0, none⟩), .int .i64 m] w fun e w' => e = .returned (.int .i64 (k : Int)) ∧ RefLots w' d B (lotRest xs n) ∧ Mod [d] w w' := by
  subst hm
  rw [← hk]
  exact kbelow_any d B xs m w h hn2

/-- A row of the call's own that begins with these numbers. -/
def OwnPre (w : World) (g : Nat) (xs : List Int) : Prop := ∃ cur, w.heap[g]? = some (.cells cur 3 (0, 0)) ∧ xs.length ≤ cur.size ∧ cur.toList.take xs.length = xs.map (Value.int .i64)

theorem OwnPre.cell {w : World} {g j : Nat} {xs : List Int} (h : OwnPre w g xs) (hj : j < xs.length) : w.cell? ⟨g, j, none⟩ = some (.int .i64 (xs.getD j 0)) := by
  obtain ⟨cur, h1, h2, h3⟩ := h
  have e : (cur.toList.take xs.length)[j]? = some (.int .i64 (xs.getD j 0)) := by rw [h3]; simp [List.getD, hj]
  rw [List.getElem?_take_of_lt hj] at e
  simp only [World.cell?, h1]
  simpa using e
theorem OwnPre.free {w : World} {g : Nat} {xs : List Int} (h : OwnPre w g xs) (j : Nat) : w.frozen? ⟨g, j, none⟩ = false := by
  obtain ⟨cur, h1, h2, h3⟩ := h
  simp [World.frozen?, h1]
theorem OwnPre.lt {w : World} {g : Nat} {xs : List Int} (h : OwnPre w g xs) : g < w.heap.size := by
  obtain ⟨cur, h1, _⟩ := h
  exact (Array.getElem?_eq_some_iff.1 h1).1
theorem OwnPre.mod {w w' : World} {g : Nat} {xs : List Int} {S : List Nat} (h : OwnPre w g xs) (hm : Mod S w w') (hs : g ∉ S) : OwnPre w' g xs := by
  have hlt := h.lt
  obtain ⟨cur, h1, h2⟩ := h
  exact ⟨cur, (hm.block g hlt hs).trans h1, h2⟩
theorem OwnPre.set {w : World} {g j : Nat} {xs : List Int} (h : OwnPre w g xs) (v : Int) : OwnPre (w.setCell ⟨g, j, none⟩ (.int .i64 v)) g (xs.set j v) := by
  obtain ⟨cur, h1, h2, h3⟩ := h
  refine ⟨cur.setIfInBounds j (.int .i64 v), ?_, by simpa using h2, ?_⟩
  · simp only [World.setCell, Array.getElem?_modify, if_true, h1]
    simp
  · rw [List.length_set, List.map_set, ← h3]
    simp [List.take_set]
theorem OwnPre.rd {w : World} {g : Nat} {xs : List Int} (h : OwnPre w g xs) : RdInts .i64 w (some ⟨g, 0, none⟩) xs := by
  intro _
  refine ⟨_, rfl, h.lt, fun j x hj => ?_⟩
  have hj' : j < xs.length := (List.getElem?_eq_some_iff.1 hj).1
  rw [add_lit, Nat.zero_add, h.cell hj']
  simp [List.getD, hj]

/-- What a reference's Shuffle answers. -/
def RShufPost (w : World) (d B : Nat) (xs ls : List Int) (e : Ending) (w' : World) : Prop :=
  ∃ g' c', e = .returned (.slice (some ⟨g', 0, none⟩) xs.length c') ∧ xs.length ≤ c' ∧ c' ≤ maxLen ∧ w.heap.size ≤ g' ∧ OwnPre w' g' (shufOut xs ls) ∧ RefLots w' d B (shufLots xs ls) ∧ Mod [d] w w'

def RShufRel (d B n g : Nat) (w : World) (R : List Int × List Int) (v : Value) (wr : World) : Prop :=
  ∃ (i : Nat) (out ls : List Int), v = .int .i64 i ∧ i < n ∧ out.length = n ∧ shufLoop i out ls = R ∧ OwnPre wr g out ∧ RefLots wr d B ls ∧ Mod [d] w wr

theorem Owned.pre {w : World} {B : Nat} {v : Value} {xs : List Int} (h : Owned .i64 3 w B v xs) (hv : ∃ g, v.ownBlock = some g) : ∃ g c, v = .slice (some ⟨g, 0, none⟩) xs.length c ∧ xs.length ≤ c ∧ c ≤ maxLen ∧ B ≤ g ∧ OwnPre w g xs := by
  obtain ⟨g0, hv⟩ := hv
  obtain ⟨hl, h⟩ := h
  rcases h with ⟨rfl, h0⟩ | ⟨g, cap, cur, rfl, hB, hg, h1, h2, h3, h4⟩
  · cases hv
  · exact ⟨g, cap, rfl, h1, h2, hB, cur, hg, by omega, by simpa using h4⟩

set_option maxHeartbeats 2000000 in
theorem kshuffle_any (d B : Nat) (a : Option Addr) (c : Nat) (xs ls : List Int) (w : World) (hr : RdInts .i64 w a xs) (hnc : a = none → c = 0) (hlen : xs.length * 8 ≤ 140737488351232) (hl : RefLots w d B ls) :
    Calls Try.prog 24 #[.pointer (some ⟨d, 0, none⟩), .slice a xs.length c] w (RShufPost w d B xs ls) := by
  have HL := Lib.hid hlen
  have HR := Lib.hid hr
  have NC := Lib.hid hnc
  have HLo := Lib.hid hl
  have hn : xs.length < 4611686018427387904 := by omega
  clear hlen hr hl hnc
  go_enter Try.func24, Try.ntmps24
  go_wp2_with (at_builtin; with_reducible refine wpList_append_rd rfl (.tmp 10) (.tmp 11) 26 rfl w.heap.size 3 .i64 8 Try.underlying26 Try.info_int (.slice (some ⟨w.heap.size, 0, none⟩) 0 0) [] rfl ?o1 a c xs rfl ?o2 NC.out ?o3 ?o4 ?o5 ?o6)
  case o1 => exact Owned.empty .i64 (heap_new _ _) (Nat.le_refl _)
  case o2 => exact HR.out.alloc _
  case o3 => unfold maxLen; simp; omega
  case o4 => have := HL.out; simp; omega
  case o5 => simp
  case o6 =>
    intro v w1 hown hgr hloc
    obtain ⟨g, cg, rfl, hcg, hcm, hB, hpre⟩ := hown.pre (by rcases hloc with h | h <;> exact ⟨_, h⟩)
    unfold maxLen at hcm
    have HPRE := Lib.hid (show OwnPre w1 g xs from hpre)
    have hm0 : Mod [] w w1 := ((Mod.refl _ _).alloc _).grown hgr (.inr (Nat.le_refl _))
    have HMOD := Lib.hid hm0
    have HLO1 := Lib.hid (HLo.out.mod hm0 (by simp) (by simp))
    have HDG := Lib.hid (show d ≠ g by have := HLo.out.lt; omega)
    have HBG := Lib.hid (show w.heap.size ≤ g ∧ B ≤ g by have := HLo.out.lt; omega)
    clear hown hgr hloc hpre hm0 hB
    by_cases h0 : xs.length ≤ 1
    · go_wp2_with fail
      refine wp_loop_rounds 1 ?_
      rw [rounds_succ]
      go_wp2
      go_ret
      have e : xs.length - 1 = 0 := by omega
      exact ⟨g, cg, rfl, hcg, by unfold maxLen; omega, HBG.out.1, by unfold shufOut; rw [e]; exact HPRE.out, by unfold shufLots; rw [e]; exact HLO1.out, HMOD.out.mono (by simp)⟩
    · go_wp2_with fail
      go_loopw [6] (fun v wr => RShufRel d B xs.length g w (shufLoop (xs.length - 1) xs ls) v wr) (fun v _ => (intOf v).toNat)
      case atStart => exact ⟨xs.length - 1, xs, ls, congrArg (Value.int .i64) (by omega), by omega, rfl, rfl, HPRE.out, HLO1.out, HMOD.out.mono (by simp)⟩
      case round =>
        obtain ⟨i, out, ls', rfl, hi, hout, hR, hown, hlo, hmod⟩ := hrel
        have HREL := Lib.hid hR
        have HOWN := Lib.hid hown
        have HLO := Lib.hid hlo
        have HM := Lib.hid hmod
        have HOUT := Lib.hid hout
        clear hR hown hlo hmod hout HPRE HLO1
        cases i with
        | zero =>
          go_wp2_with fail
          go_ret
          exact ⟨g, cg, rfl, hcg, by unfold maxLen; omega, HBG.out.1, by unfold shufOut; rw [← HREL.out]; exact HOWN.out, by unfold shufLots; rw [← HREL.out]; exact HLO.out, HM.out⟩
        | succ i =>
          obtain ⟨k, hk⟩ : ∃ k : Nat, lotBelow ls' ((i : Int) + 2) = k := ⟨_, (Int.toNat_of_nonneg (lotBelow_range _ _).1).symm⟩
          have hki : k < i + 2 := by have := (lotBelow_range ls' ((i : Int) + 2)).2 (by omega); omega
          have HK := Lib.hid hk
          clear hk
          go_wp2_with fail
          refine (kbelow_is d B ls' _ ((i : Int) + 2) k _ HLO.out (by omega) (by omega) HK.out).mono ?_
          rintro e w2 ⟨rfl, hlo2, hmod2⟩
          have hown2 : OwnPre w2 g out := HOWN.out.mod hmod2 (by have := HDG.out; simp; omega)
          obtain ⟨x, hx⟩ : ∃ x, out.getD (i + 1) 0 = x := ⟨_, rfl⟩
          obtain ⟨y, hy⟩ : ∃ y, out.getD k 0 = y := ⟨_, rfl⟩
          have ci := hown2.cell (j := i + 1) (by rw [HOUT.out]; omega)
          have ck := hown2.cell (j := k) (by rw [HOUT.out]; omega)
          rw [hx] at ci
          rw [hy] at ck
          have fi := hown2.free (i + 1)
          have fk := hown2.free k
          have HX := Lib.hid hx
          have HY := Lib.hid hy
          have HOWN2 := Lib.hid hown2
          have HLO2 := Lib.hid hlo2
          have HMOD2 := Lib.hid hmod2
          clear hx hy hown2 hlo2 hmod2
          obtain ⟨v', hv'⟩ := cell?_setCell_some (w := w2) (p := ⟨g, i + 1, none⟩) (x := .int .i64 y) (q := ⟨g, k, none⟩) (v := .int .i64 y) ck
          have hkl : k < xs.length := by omega
          go_wp2_with fail
          clear hv' ci ck fi fk
          go_roundw
          case rel =>
            have hlt := HMOD2.out.size
            have hsw : swapAt out (i + 1) k = (out.set (i + 1) y).set k x := by unfold swapAt; rw [HX.out, HY.out]
            refine ⟨i, swapAt out (i + 1) k, lotRest ls' ((i : Int) + 2), by go_num, by omega, by simp [swapAt, HOUT.out], by rw [← HREL.out, shufLoop, HK.out]; rfl,
              by rw [hsw]; exact (HOWN2.out.set y).set x, (HLO2.out.mod (((Mod.refl [g] w2).setCell (by simp) _).setCell (by simp) _) (by simpa using HDG.out) (by simpa using HBG.out.2)), ((HM.out.trans HMOD2.out).setCell (.inr HBG.out.1) _ |>.setCell (.inr HBG.out.1) _)⟩
          case measure => simp [intOf]

/-- What a reference's Some answers, as a list that is read. -/
def RSomeRd (w : World) (d B : Nat) (ys ls' : List Int) (e : Ending) (w' : World) : Prop := ∃ a c, e = .returned (.slice a ys.length c) ∧ RdInts .i64 w' a ys ∧ RefLots w' d B ls' ∧ Mod [d] w w'

theorem ksome_end {w w1 : World} {d B g k m : Nat} {c : Nat} {xs ls ys : List Int} (hk : k = m) (h2 : OwnPre w1 g (shufOut xs ls)) (h3 : RefLots w1 d B (shufLots xs ls)) (h4 : Mod [d] w w1) (hm : m ≤ xs.length) (hy : (shufOut xs ls).take m = ys) :
    RSomeRd w d B ys (shufLots xs ls) (.returned (.slice (some ⟨g, 0, none⟩) k c)) w1 := by
  subst hk
  subst hy
  have hl : ((shufOut xs ls).take k).length = k := by simp [shufOut_length]; omega
  exact ⟨some ⟨g, 0, none⟩, c, by rw [hl], h2.rd.take k, h3, h4⟩

set_option maxHeartbeats 1000000 in
theorem ksome_any (d B : Nat) (a : Option Addr) (c m : Nat) (n : Int) (xs ls ys : List Int) (w : World) (hr : RdInts .i64 w a xs) (hnc : a = none → c = 0) (hlen : xs.length * 8 ≤ 140737488351232) (hl : RefLots w d B ls) (hm : (m : Int) = min (max n 0) xs.length) (hy : (shufOut xs ls).take m = ys) :
    Calls Try.prog 32 #[.pointer (some ⟨d, 0, none⟩), .slice a xs.length c, .int .i64 n] w (RSomeRd w d B ys (if n < 1 then ls else shufLots xs ls)) := by
  by_cases hn : n < 1
  · rw [if_pos hn]
    obtain rfl : m = 0 := by omega
    obtain rfl : ys = [] := by rw [← hy]; rfl
    have HL := Lib.hid hl
    clear hl hm hy hlen hr hnc
    go_enter Try.func32, Try.ntmps32
    go_wp2
    go_ret
    exact ⟨some ⟨w.heap.size, 0, none⟩, 0, rfl, fun h => absurd rfl h, HL.out.mod ((Mod.refl [] _).alloc _) (by simp) (by simp), (Mod.refl _ _).alloc _⟩
  · rw [if_neg hn]
    have HM := Lib.hid hm
    have HY := Lib.hid hy
    have HL := Lib.hid hlen
    have hn2 : xs.length < 4611686018427387904 := by omega
    clear hm hlen hy
    go_enter Try.func32, Try.ntmps32
    go_wp2_with fail
    refine (kshuffle_any d B a c xs ls _ hr hnc HL.out hl).mono ?_
    rintro e w1 ⟨g', c', rfl, hc', _, hg', hO, hL, hM⟩
    have HO := Lib.hid hO
    have HLO := Lib.hid hL
    have HMO := Lib.hid hM
    clear hO hL hM hr hl hnc
    by_cases hnl : n ≤ xs.length
    · have hnc' : n.toNat ≤ c' := by omega
      go_wp2
      all_goals
        go_ret
        have hk := HM.out
        refine ksome_end ?_ HO.out HLO.out HMO.out (by omega) HY.out
        omega
    · go_wp2
      all_goals
        go_ret
        have hk := HM.out
        refine ksome_end ?_ HO.out HLO.out HMO.out (by omega) HY.out
        omega

end Go.Proofs.Ytnapboojfhojjaa
