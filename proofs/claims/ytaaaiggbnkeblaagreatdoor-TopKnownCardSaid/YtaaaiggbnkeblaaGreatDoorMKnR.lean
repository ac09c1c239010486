/-
  The walk of lot.Shuffle.
  The walks of slices.Index, slices.Contains, slices.IndexFunc at round's closure; of round.Next.
  The walk of slices.Insert at a slice whose capacity is its length, one element.
  Plain: what Shuffle answers has the same numbers, as often.
  TopKnown: a Round that lies in a detector (cell 1): Next, Left, Join.
-/
import Derived.Test.YtaaaiggbnkeblaaGreatDoorMBase
import Derived.Lib.AppendZerosOnto
import Derived.Laws.CopyOwn
import Derived.Deep.DeepAppendWide
import Derived.Test.YtaaaiggbnkeblaaGreatDoorMKnE
set_option linter.unusedSimpArgs false
set_option linter.unusedVariables false
namespace Go.Proofs.YtaaaiggbnkeblaaGreatDoor
open Go.RowKit

def swapAt (l : List Int) (i k : Nat) : List Int := (l.set i (l.getD k 0)).set k (l.getD i 0)

def shufLoop : Nat → List Int → List Int → List Int × List Int
  | 0, out, ls => (out, ls)
  | i + 1, out, ls => shufLoop i (swapAt out (i + 1) (lotBelow ls (i + 2)).toNat) (lotRest ls (i + 2))

/-- A row of numbers of the call's own, whole. -/
def OwnInts (w : World) (g : Nat) (xs : List Int) : Prop := w.heap[g]? = some (.cells (xs.map (Value.int .i64)).toArray 3 (0, 0))

theorem lotBelow_range (xs : List Int) (n : Int) : 0 ≤ lotBelow xs n ∧ (1 ≤ n → lotBelow xs n < n) := by
  unfold lotBelow
  split
  · omega
  · exact ⟨Int.emod_nonneg _ (by omega), fun _ => Int.emod_lt_of_pos _ (by omega)⟩

theorem below_is (d g : Nat) (xs : List Int) (m n : Int) (k : Nat) (w : World) (h : LotsAt w d g xs) (hn2 : n ≤ 9223372036854775807) (hm : m = n) (hk : lotBelow xs n = k) :
    Calls Tryz.prog 144 #[.pointer (some ⟨d, 0, none⟩), .int .i64 m] w fun e w' => e = .returned (.int .i64 (k : Int)) ∧ LotsAt w' d g (lotRest xs n) ∧ Mod [d] w w' := by
  subst hm
  rw [← hk]
  exact below_any d g xs m w h hn2

theorem OwnInts.mod {w w' : World} {g : Nat} {xs : List Int} {S : List Nat} (h : OwnInts w g xs) (hm : Mod S w w') (hs : g ∉ S) : OwnInts w' g xs := by
  have hlt : g < w.heap.size := (Array.getElem?_eq_some_iff.1 h).1
  exact (hm.block g hlt hs).trans h

theorem OwnInts.cell {w : World} {g j : Nat} {xs : List Int} (h : OwnInts w g xs) (hj : j < xs.length) : w.cell? ⟨g, j, none⟩ = some (.int .i64 (xs.getD j 0)) := by
  unfold OwnInts at h
  simp [World.cell?, h, List.getD, hj]
theorem OwnInts.free {w : World} {g : Nat} {xs : List Int} (h : OwnInts w g xs) (j : Nat) : w.frozen? ⟨g, j, none⟩ = false := by
  unfold OwnInts at h
  simp [World.frozen?, h]

def ShufPost (w : World) (d g : Nat) (xs ls : List Int) (e : Ending) (w' : World) : Prop :=
  ∃ g', e = .returned (.slice (some ⟨g', 0, none⟩) xs.length xs.length) ∧ w.heap.size ≤ g' ∧ OwnInts w' g' (shufLoop (xs.length - 1) xs ls).1 ∧ LotsAt w' d g (shufLoop (xs.length - 1) xs ls).2 ∧ Mod [d] w w'

def ShufRel (d g n : Nat) (w : World) (R : List Int × List Int) (v : Value) (wr : World) : Prop :=
  ∃ (i : Nat) (out ls : List Int), v = .int .i64 i ∧ i < n ∧ out.length = n ∧ shufLoop i out ls = R ∧ OwnInts wr w.heap.size out ∧ LotsAt wr d g ls ∧ Mod [d] w wr

theorem shuf_end {d g : Nat} {xs ls out ls' : List Int} {w wr : World} (hR : shufLoop 0 out ls' = shufLoop (xs.length - 1) xs ls) (ho : OwnInts wr w.heap.size out) (hl : LotsAt wr d g ls') (hm : Mod [d] w wr) :
    ShufPost w d g xs ls (.returned (.slice (some ⟨w.heap.size, 0, none⟩) xs.length xs.length)) wr := by
  refine ⟨w.heap.size, rfl, Nat.le_refl _, ?_, ?_, hm⟩
  · rw [← hR]; exact ho
  · rw [← hR]; exact hl

theorem OwnInts.set {w : World} {g j : Nat} {xs : List Int} (h : OwnInts w g xs) (v : Int) : OwnInts (w.setCell ⟨g, j, none⟩ (.int .i64 v)) g (xs.set j v) := by
  unfold OwnInts at *
  simp only [World.setCell, Array.getElem?_modify, if_true, h]
  simp [List.map_set]
theorem OwnInts.swap {w : World} {g i k : Nat} {xs : List Int} {x y : Int} (h : OwnInts w g xs) (hi : i < xs.length) (hk : k < xs.length) (hx : xs.getD i 0 = x) (hy : xs.getD k 0 = y) :
    OwnInts ((w.setCell ⟨g, i, none⟩ (.int .i64 y)).setCell ⟨g, k, none⟩ (.int .i64 x)) g (swapAt xs i k) := by
  unfold swapAt
  rw [hx, hy]
  exact (h.set y).set x
theorem OwnInts.drew {w : World} {g : Nat} {xs : List Int} (h : OwnInts w g xs) : OwnInts w.drew g xs := h
theorem LotsAt.drew {w : World} {d g : Nat} {xs : List Int} (h : LotsAt w d g xs) : LotsAt w.drew d g xs := h
theorem LotsAt.set2 {w : World} {d g b i k : Nat} {u v : Value} {xs : List Int} (h : LotsAt w d g xs) (hd : d ≠ b) (hg : g ≠ b) : LotsAt ((w.setCell ⟨b, i, none⟩ u).setCell ⟨b, k, none⟩ v) d g xs :=
  h.same ((Below.heap_setCell _ _ _ _ hd).trans (Below.heap_setCell _ _ _ _ hd)) ((Below.heap_setCell _ _ _ _ hg).trans (Below.heap_setCell _ _ _ _ hg))

set_option maxHeartbeats 1000000 in
theorem shuffle_some (d g : Nat) (a : Option Addr) (c : Nat) (xs ls : List Int) (w : World) (hr : RdInts .i64 w a xs) (hlen : xs.length * 8 ≤ 140737488351232) (h0 : xs ≠ []) (hl : LotsAt w d g ls) :
    Calls Tryz.prog 113 #[.pointer (some ⟨d, 0, none⟩), .slice a xs.length c] w (ShufPost w d g xs ls) := by
  have hmk := run_make_row' (P := Tryz.prog) 67 3 (.int .i64 0) 8 Tryz.underlying67 Tryz.info_int rfl .i64 .i64 xs.length (by omega) (by omega)
  have HL := Lib.hid hlen
  have HR := Lib.hid hr
  have H0 := Lib.hid h0
  obtain ⟨hd, hg⟩ := hl.lt
  have HLo := Lib.hid hl
  have hn : xs.length < 4611686018427387904 := by omega
  have hp : 0 < xs.length := List.length_pos_iff.2 h0
  clear hlen hr h0 hl
  go_enter Tryz.func113, Tryz.ntmps113
  go_wp2_with (with_reducible refine wpList_copy_full rfl (.tmp 12) (.tmp 13) 67 67 rfl 3 Tryz.underlying67 Tryz.size_int .i64 xs w.heap.size xs.length c a rfl rfl (madeCells #[.int .i64 0] xs.length) 3 ?hg ?hcur ?hsrc ?next)
  case hg => exact heap_new _ _
  case hcur => simp [madeCells]
  case hsrc => exact HR.out.alloc _
  case next =>
    intro w1 hrow hgr hsz
    have HROW := Lib.hid hrow
    have HGR := Lib.hid hgr
    clear hrow hgr
    go_wp2_with fail
    clear hmk hsz
    go_loopw [7] (fun v wr => ShufRel d g xs.length w (shufLoop (xs.length - 1) xs ls) v wr) (fun v _ => (intOf v).toNat)
    case atStart => exact ⟨xs.length - 1, xs, ls, congrArg (Value.int .i64) (by omega), by omega, rfl, rfl, HROW.out, (HLo.out.same (by rw [HGR.out.block _ (by simp; omega) (by simp; omega), Below.heap_alloc _ _ _ hd]) (by rw [HGR.out.block _ (by simp; omega) (by simp; omega), Below.heap_alloc _ _ _ hg])), ((Mod.refl _ _).alloc _).grown HGR.out (.inr (Nat.le_refl _))⟩
    case round =>
      obtain ⟨i, out, ls', rfl, hi, hout, hR, hown, hlo, hmod⟩ := hrel
      have HREL := Lib.hid hR
      have HOWN := Lib.hid hown
      have HLO := Lib.hid hlo
      have HMOD := Lib.hid hmod
      have HOUT := Lib.hid hout
      clear hR hown hlo hmod hout HROW HGR
      cases i with
      | zero =>
        go_wp2_with fail
        go_ret
        exact shuf_end HREL.out HOWN.out HLO.out HMOD.out
      | succ i =>
        obtain ⟨k, hk⟩ : ∃ k : Nat, lotBelow ls' ((i : Int) + 2) = k := ⟨_, (Int.toNat_of_nonneg (lotBelow_range _ _).1).symm⟩
        have hki : k < i + 2 := by have := (lotBelow_range ls' ((i : Int) + 2)).2 (by omega); omega
        have HK := Lib.hid hk
        clear hk
        go_wp2_with (go_at_call 144; refine (below_is d g ls' _ ((i : Int) + 2) k _ HLO.out (by omega) (by omega) HK.out).mono ?_; rintro e w2 ⟨rfl, hlo2, hmod2⟩)
        have hown2 : OwnInts w2 w.heap.size out := HOWN.out.mod hmod2 (by simp; omega)
        obtain ⟨x, hx⟩ : ∃ x, out.getD (i + 1) 0 = x := ⟨_, rfl⟩
        obtain ⟨y, hy⟩ : ∃ y, out.getD k 0 = y := ⟨_, rfl⟩
        have ci := hown2.cell (j := i + 1) (by rw [HOUT.out]; omega)
        have ck := hown2.cell (j := k) (by rw [HOUT.out]; omega)
        rw [hx] at ci
        rw [hy] at ck
        have fi := hown2.free (i + 1)
        have fk := hown2.free k
        have HX := Lib.hid hx
        have HY := Lib.hid hy
        have HOWN2 := Lib.hid hown2
        have HLO2 := Lib.hid hlo2
        have HMOD2 := Lib.hid hmod2
        clear hx hy hown2 hlo2 hmod2
        obtain ⟨v', hv'⟩ := cell?_setCell_some (w := w2) (p := ⟨w.heap.size, i + 1, none⟩) (x := .int .i64 y) (q := ⟨w.heap.size, k, none⟩) (v := .int .i64 y) ck
        have hkl : k < xs.length := by omega
        go_region
        clear hv' ci ck fi fk
        go_wp2
        go_roundw
        case rel =>
          have hlt := HMOD2.out.size
          exact ⟨i, swapAt out (i + 1) k, lotRest ls' ((i : Int) + 2), by go_num, by omega, by simp [swapAt, HOUT.out], by rw [← HREL.out, shufLoop, HK.out]; rfl,
            (HOWN2.out.swap (by rw [HOUT.out]; omega) (by rw [HOUT.out]; omega) HX.out HY.out).drew, (HLO2.out.set2 (by omega) (by omega)).drew, ((HMOD.out.trans HMOD2.out).setCell (.inr (Nat.le_refl _)) _ |>.setCell (.inr (Nat.le_refl _)) _).drew⟩
        case measure => simp [intOf]

set_option maxHeartbeats 1000000 in
theorem shuffle_none (d g : Nat) (a : Option Addr) (c : Nat) (xs ls : List Int) (w : World) (hr : RdInts .i64 w a xs) (h0 : xs.length ≤ 0) (hl : LotsAt w d g ls) :
    Calls Tryz.prog 113 #[.pointer (some ⟨d, 0, none⟩), .slice a xs.length c] w (ShufPost w d g xs ls) := by
  have hmk := run_make_row' (P := Tryz.prog) 67 3 (.int .i64 0) 8 Tryz.underlying67 Tryz.info_int rfl .i64 .i64 xs.length (by omega) (by omega)
  have HR := Lib.hid hr
  obtain ⟨hd, hg⟩ := hl.lt
  have HLo := Lib.hid hl
  clear hr hl
  go_enter Tryz.func113, Tryz.ntmps113
  go_wp2_with (with_reducible refine wpList_copy_full rfl (.tmp 12) (.tmp 13) 67 67 rfl 3 Tryz.underlying67 Tryz.size_int .i64 xs w.heap.size xs.length c a rfl rfl (madeCells #[.int .i64 0] xs.length) 3 ?hg ?hcur ?hsrc ?next)
  case hg => exact heap_new _ _
  case hcur => simp [madeCells]
  case hsrc => exact HR.out.alloc _
  case next =>
    intro w1 hrow hgr hsz
    have HROW := Lib.hid hrow
    have HGR := Lib.hid hgr
    clear hrow hgr
    go_wp2_with fail
    clear hmk hsz
    refine wp_loop_rounds 1 ?_
    rw [rounds_succ]
    go_wp2
    go_ret
    exact shuf_end (by rw [show xs.length - 1 = 0 by omega]) HROW.out (HLo.out.same (by rw [HGR.out.block _ (by simp; omega) (by simp; omega), Below.heap_alloc _ _ _ hd]) (by rw [HGR.out.block _ (by simp; omega) (by simp; omega), Below.heap_alloc _ _ _ hg])) (((Mod.refl _ _).alloc _).grown HGR.out (.inr (Nat.le_refl _)))

theorem shuffle_any (d g : Nat) (a : Option Addr) (c : Nat) (xs ls : List Int) (w : World) (hr : RdInts .i64 w a xs) (hlen : xs.length * 8 ≤ 140737488351232) (hl : LotsAt w d g ls) :
    Calls Tryz.prog 113 #[.pointer (some ⟨d, 0, none⟩), .slice a xs.length c] w (ShufPost w d g xs ls) := by
  by_cases h0 : xs = []
  · exact shuffle_none d g a c xs ls w hr (by rw [h0]; exact Nat.le_refl _) hl
  · exact shuffle_some d g a c xs ls w hr hlen h0 hl

end Go.Proofs.YtaaaiggbnkeblaaGreatDoor

namespace Go.Proofs.YtaaaiggbnkeblaaGreatDoor
open Go.RowKit

def shufOut (xs ls : List Int) : List Int := (shufLoop (xs.length - 1) xs ls).1
def shufLots (xs ls : List Int) : List Int := (shufLoop (xs.length - 1) xs ls).2
theorem shufLoop_length : ∀ (i : Nat) (out ls : List Int), (shufLoop i out ls).1.length = out.length
  | 0, _, _ => rfl
  | i + 1, out, ls => by rw [shufLoop, shufLoop_length i]; simp [swapAt]
theorem shufOut_length (xs ls : List Int) : (shufOut xs ls).length = xs.length := shufLoop_length _ _ _

theorem not_mem_take {v x : Int} {L : List Int} {k : Nat} (hx : L[k]? = some x) (h : v ∉ L.take k) (hv : v ≠ x) : v ∉ L.take (k + 1) := by
  rw [List.take_add_one, hx]
  simp
  exact ⟨h, hv⟩

set_option maxHeartbeats 2000000 in
theorem index_any (a : Option Addr) (c : Nat) (L : List Int) (v : Int) (w : World) (hr : RdInts .i64 w a L) (hl : L.length ≤ 9223372036854775807) :
    Calls Tryz.prog 150 #[.slice a L.length c, .int .i64 v] w fun e w' => (∃ i : Int, e = .returned (.int .i64 i) ∧ (0 ≤ i ↔ v ∈ L)) ∧ w = w' := by
  have HR := Lib.hid hr
  clear hr
  go_enter Tryz.func150, Tryz.ntmps150
  go_wp2_with fail
  go_loopw [8] (fun u wr => ∃ k : Nat, u = .int .i64 k ∧ k ≤ L.length ∧ v ∉ L.take k ∧ wr = w) (fun u _ => L.length - (intOf u).toNat)
  case atStart => exact ⟨0, rfl, Nat.zero_le _, by simp, rfl⟩
  case round =>
    obtain ⟨k, rfl, hk, hno, rfl⟩ := hrel
    have HNO := Lib.hid hno
    clear hno
    by_cases hlt : (k : Int) < L.length
    · have hlt' : k < L.length := by omega
      obtain ⟨x, hx⟩ : ∃ x, L[k]? = some x := ⟨_, List.getElem?_eq_getElem hlt'⟩
      obtain ⟨ad, rfl, _, hcx⟩ := HR.out (by intro h; rw [h] at hlt'; simp at hlt')
      have cx := hcx k x hx
      have HX := Lib.hid hx
      clear hcx hx
      by_cases hv : v = x
      · have hvq : (v == x) = true := by simpa using hv
        have HV := Lib.hid hv
        clear hv
        go_wp2_with fail
        go_ret
        exact ⟨⟨k, rfl, by rw [HV.out]; exact ⟨fun _ => List.mem_of_getElem? HX.out, fun _ => by omega⟩⟩, rfl⟩
      · have hvq : (v == x) = false := by simpa using hv
        have HV := Lib.hid (not_mem_take HX.out HNO.out hv)
        clear hv
        go_wp2_with fail
        go_roundw
        case rel => exact ⟨k + 1, by go_num, by omega, HV.out, by trivial⟩
        case measure => simp [intOf]; omega
    · obtain rfl : k = L.length := by omega
      go_wp2_with fail
      go_ret
      exact ⟨⟨-1, rfl, by rw [List.take_length] at HNO; exact ⟨fun h => absurd h (by omega), fun h => absurd h HNO.out⟩⟩, rfl⟩

set_option maxHeartbeats 1000000 in
theorem contains_any (a : Option Addr) (c : Nat) (L : List Int) (v : Int) (w : World) (hr : RdInts .i64 w a L) (hl : L.length ≤ 9223372036854775807) :
    Calls Tryz.prog 111 #[.slice a L.length c, .int .i64 v] w fun e w' => e = .returned (.bool (decide (v ∈ L))) ∧ w = w' := by
  have HR := Lib.hid hr
  clear hr
  go_enter Tryz.func111, Tryz.ntmps111
  go_wp2_with fail
  refine (index_any a c L v w HR.out hl).mono ?_
  rintro e w1 ⟨⟨i, rfl, hi⟩, rfl⟩
  have HI := Lib.hid hi
  clear hi
  by_cases h0 : 0 ≤ i
  · go_wp2_with fail
    go_ret
    exact ⟨by simp [HI.out.1 h0], rfl⟩
  · go_wp2_with fail
    go_ret
    have hv : v ∉ L := fun h => absurd (HI.out.2 h) (by omega)
    exact ⟨by rw [decide_eq_false hv]; first | rfl | (simp; omega), rfl⟩

set_option maxHeartbeats 1000000 in
theorem there_is (p : Nat) (a : Option Addr) (c : Nat) (xs : List Int) (n : Int) (b : Bool) (w : World) (hp : w.cell? ⟨p, 0, none⟩ = some (.slice a xs.length c)) (hr : RdInts .i64 w a xs) (hl : xs.length ≤ 9223372036854775807) (hb : decide (n ∈ xs) = b) :
    Calls Tryz.prog 110 #[.int .i64 n, .pointer (some ⟨p, 0, none⟩)] w fun e w' => e = .returned (.bool b) ∧ w = w' := by
  have HR := Lib.hid hr
  have HB := Lib.hid hb
  clear hr hb
  go_enter Tryz.func110, Tryz.ntmps110
  go_wp2_with fail
  refine (contains_any a c xs n w HR.out hl).mono ?_
  rintro e w1 ⟨rfl, rfl⟩
  rw [HB.out]
  go_wp2_with fail
  go_ret
  exact ⟨rfl, rfl⟩

def FirstIn (xs L : List Int) (i : Int) : Prop := (i = -1 ∧ ∀ y ∈ L, y ∉ xs) ∨ ∃ (k : Nat) (x : Int), i = k ∧ L[k]? = some x ∧ (∀ y ∈ L.take k, y ∉ xs) ∧ x ∈ xs

set_option maxHeartbeats 2000000 in
theorem indexfunc_any (p : Nat) (b : Option Addr) (cb : Nat) (xs : List Int) (a : Option Addr) (c : Nat) (L : List Int) (w : World) (hp : w.cell? ⟨p, 0, none⟩ = some (.slice b xs.length cb)) (hx : RdInts .i64 w b xs) (hxl : xs.length ≤ 9223372036854775807)
    (hr : RdInts .i64 w a L) (hl : L.length ≤ 9223372036854775807) :
    Calls Tryz.prog 112 #[.slice a L.length c, .func (.func 110) #[] #[.pointer (some ⟨p, 0, none⟩)]] w fun e w' => (∃ i : Int, e = .returned (.int .i64 i) ∧ FirstIn xs L i) ∧ w = w' := by
  have HR := Lib.hid hr
  have HXS := Lib.hid hx
  have HP := Lib.hid hp
  clear hr hx hp
  go_enter Tryz.func112, Tryz.ntmps112
  go_wp2_with fail
  go_loopw [8] (fun u wr => ∃ k : Nat, u = .int .i64 k ∧ k ≤ L.length ∧ (∀ y ∈ L.take k, y ∉ xs) ∧ wr = w) (fun u _ => L.length - (intOf u).toNat)
  case atStart => exact ⟨0, rfl, Nat.zero_le _, by simp, rfl⟩
  case round =>
    obtain ⟨k, rfl, hk, hno, rfl⟩ := hrel
    have HNO := Lib.hid hno
    clear hno
    by_cases hlt : (k : Int) < L.length
    · have hlt' : k < L.length := by omega
      obtain ⟨x, hx⟩ : ∃ x, L[k]? = some x := ⟨_, List.getElem?_eq_getElem hlt'⟩
      obtain ⟨ad, rfl, _, hcx⟩ := HR.out (by intro h; rw [h] at hlt'; simp at hlt')
      have cx := hcx k x hx
      have HX := Lib.hid hx
      clear hcx hx
      by_cases hv : x ∈ xs
      · have HV := Lib.hid hv
        clear hv
        go_wp2_with fail
        refine (there_is p b cb xs x true _ HP.out HXS.out hxl (by simp [HV.out])).mono ?_
        rintro e w1 ⟨rfl, rfl⟩
        go_wp2_with fail
        go_ret
        exact ⟨⟨k, rfl, .inr ⟨k, x, rfl, HX.out, HNO.out, HV.out⟩⟩, rfl⟩
      · have HV := Lib.hid hv
        have HV2 := Lib.hid (show ∀ y ∈ L.take (k + 1), y ∉ xs by
          intro y hy
          rw [List.take_add_one, HX.out] at hy
          simp at hy
          rcases hy with hy | rfl
          · exact HNO.out y hy
          · exact hv)
        clear hv
        go_wp2_with fail
        refine (there_is p b cb xs x false _ HP.out HXS.out hxl (by simp [HV.out])).mono ?_
        rintro e w1 ⟨rfl, rfl⟩
        go_wp2_with fail
        go_roundw
        case rel => exact ⟨k + 1, by go_num, by omega, HV2.out, by trivial⟩
        case measure => simp [intOf]; omega
    · obtain rfl : k = L.length := by omega
      go_wp2_with fail
      go_ret
      exact ⟨⟨-1, rfl, .inl ⟨rfl, by rw [List.take_length] at HNO; exact HNO.out⟩⟩, rfl⟩

/-- A Round at block r, what is left; its list lies in none of the blocks G. -/
def RoundAt (G : List Nat) (w : World) (r : Nat) (L : List Int) : Prop :=
  ∃ a c, w.cell? ⟨r, 0, none⟩ = some (.slice a L.length c) ∧ w.frozen? ⟨r, 0, none⟩ = false ∧ L.length ≤ c ∧ c ≤ maxLen ∧ (a = none → c = 0) ∧ r < w.heap.size ∧
    (L ≠ [] → ∃ g off, a = some ⟨g, off, none⟩ ∧ g ∉ G ∧ g < w.heap.size ∧ ∀ j x, L[j]? = some x → w.cell? ⟨g, off + j, none⟩ = some (.int .i64 x))

theorem RoundAt.mod {G S : List Nat} {w w' : World} {r : Nat} {L : List Int} (h : RoundAt G w r L) (hm : Mod S w w') (hr : r ∉ S) (hS : ∀ s ∈ S, s ∈ G) : RoundAt G w' r L := by
  obtain ⟨a, c, h1, h2, h3, h4, h5, h6, h7⟩ := h
  refine ⟨a, c, (hm.cell h6 hr).trans h1, (hm.frozen h6 hr).trans h2, h3, h4, h5, Nat.lt_of_lt_of_le h6 hm.size, fun hne => ?_⟩
  obtain ⟨g, off, ha, hg, hlt, hc⟩ := h7 hne
  exact ⟨g, off, ha, hg, Nat.lt_of_lt_of_le hlt hm.size, fun j x hj => (hm.cell hlt (fun hs => hg (hS _ hs))).trans (hc j x hj)⟩

theorem RoundAt.same {G : List Nat} {w w' : World} {r : Nat} {L : List Int} (h : RoundAt G w r L) (hm : Mod [] w w') : RoundAt G w' r L := h.mod hm (by simp) (by simp)

def rDrop (xs L : List Int) : List Int := L.dropWhile fun n => !decide (n ∈ xs)
theorem rDrop_none {xs L : List Int} (h : ∀ y ∈ L, y ∉ xs) : rDrop xs L = [] := by
  unfold rDrop
  induction L with
  | nil => rfl
  | cons y L ih =>
    rw [List.dropWhile_cons_of_pos (by simp [h y (by simp)])]
    exact ih fun z hz => h z (by simp [hz])
theorem rDrop_at {xs L : List Int} {k : Nat} {x : Int} (hx : L[k]? = some x) (h : ∀ y ∈ L.take k, y ∉ xs) (hin : x ∈ xs) : rDrop xs L = x :: L.drop (k + 1) := by
  induction k generalizing L with
  | zero =>
    cases L with
    | nil => simp at hx
    | cons y L =>
      obtain rfl : y = x := by simpa using hx
      simp [rDrop, hin]
  | succ k ih =>
    cases L with
    | nil => simp at hx
    | cons y L =>
      have hy : y ∉ xs := h y (by simp)
      have := ih (L := L) (by simpa using hx) (fun z hz => h z (by simp [hz]))
      simp only [rDrop] at this ⊢
      rw [List.dropWhile_cons_of_pos (by simp [hy]), this]
      simp

def rNext (L xs ls : List Int) : Int × List Int × List Int :=
  if rDrop xs L = [] then ((shufOut xs ls).headD 0, (shufOut xs ls).tail, shufLots xs ls) else ((rDrop xs L).headD 0, (rDrop xs L).tail, ls)

def RNextPost (G : List Nat) (w : World) (r d g : Nat) (N : Int × List Int × List Int) (e : Ending) (w' : World) : Prop :=
  e = .returned (.tuple #[.int .i64 N.1, .bool true]) ∧ RoundAt G w' r N.2.1 ∧ LotsAt w' d g N.2.2 ∧ Mod [d, r] w w'

theorem round_put {G : List Nat} {w : World} {r g off n c k : Nat} {L : List Int} {a : Option Addr} {u : Value} (h1 : w.cell? ⟨r, 0, none⟩ = some u) (h2 : w.frozen? ⟨r, 0, none⟩ = false) (hr : r ∈ G) (hg : g ∉ G) (hlt : g < w.heap.size) (hrl : r < w.heap.size)
    (hc : ∀ j x, L[j]? = some x → w.cell? ⟨g, off + j, none⟩ = some (.int .i64 x)) (hn : (L.drop k).length = n) (hcap : n ≤ c) (hm : c ≤ maxLen) (ha0 : a = none → c = 0) (ha : n ≠ 0 → a = some ⟨g, off + k, none⟩) :
    RoundAt G (w.setCell ⟨r, 0, none⟩ (.slice a n c)) r (L.drop k) := by
  refine ⟨a, c, by rw [hn]; exact cell_set_same h1, by rw [World.frozen?_setCell]; exact h2, by omega, hm, ha0, by simpa [World.setCell] using hrl, fun hne => ⟨g, off + k, ha (by rw [← hn]; intro e; exact hne (List.eq_nil_of_length_eq_zero e)), hg, by simpa [World.setCell] using hlt, fun j x hj => ?_⟩⟩
  rw [cell_set_far _ _ _ _ (by intro e; simp at e; rw [e] at hr; exact hg hr), Nat.add_assoc]
  exact hc (k + j) x (by rw [List.getElem?_drop] at hj; exact hj)

set_option maxHeartbeats 4000000 in
theorem rnext_any (G : List Nat) (r d g : Nat) (a : Option Addr) (c : Nat) (xs L ls : List Int) (w : World) (hR : RoundAt G w r L) (hL : LotsAt w d g ls) (hx : RdInts .i64 w a xs) (hne : xs ≠ []) (hlen : xs.length * 8 ≤ 140737488351232)
    (hrG : r ∈ G) (hGl : ∀ s ∈ G, s < w.heap.size) (hrd : r ≠ d) (hrg : r ≠ g) :
    Calls Tryz.prog 56 #[.pointer (some ⟨r, 0, none⟩), .slice a xs.length c, .pointer (some ⟨d, 0, none⟩)] w (RNextPost G w r d g (rNext L xs ls)) := by
  have hp : 0 < xs.length := List.length_pos_iff.2 hne
  have hnz : ((xs.length : Int) == 0) = false := by simp; omega
  obtain ⟨ra, rc, q1, q2, q3, q4, q5, q6, q7⟩ := hR
  have hrd' : RdInts .i64 w ra L := fun h0 => by
    obtain ⟨g, off, rfl, _, hlt, hc⟩ := q7 h0
    exact ⟨_, rfl, hlt, fun j x hj => by rw [add_lit]; exact hc j x hj⟩
  obtain ⟨n, hn⟩ : ∃ n, L.length = n := ⟨_, rfl⟩
  have hmf : ∀ fn first cap w, (Instr.makeFunc fn first cap).run Tryz.prog w = .ok (.func fn first cap) w := fun _ _ _ _ => rfl
  have HX := Lib.hid hx
  have HRD := Lib.hid hrd'
  have HL := Lib.hid hL
  have HLEN := Lib.hid hlen
  have HGL := Lib.hid hGl
  have Q7 := Lib.hid q7
  have Q5 := Lib.hid q5
  have Q4 := Lib.hid q4
  have HN := Lib.hid hn
  rw [hn] at q1 q3
  clear hx hL hlen hGl hrd' q7 q5 q4 hn hne
  go_enter Tryz.func56, Tryz.ntmps56
  have hidx := indexfunc_any w.heap.size a c xs ra rc L (w.alloc (.cells #[.slice a xs.length c] 67)) (cell_in (heap_new _ _) rfl) (HX.out.alloc _) (by have := HLEN.out; omega) (HRD.out.alloc _) (by have := HN.out; have := Q4.out; simp only [maxLen] at this; omega)
  rw [HN.out] at hidx
  have HIDX := Lib.hid hidx
  clear hidx
  go_wp2_with fail
  refine HIDX.out.mono ?_
  rintro e w1 ⟨⟨i, rfl, hi⟩, rfl⟩
  rcases hi with ⟨rfl, hno⟩ | ⟨k, x, rfl, hk, htk, hin⟩
  · have HRN := Lib.hid (show rNext L xs ls = ((shufOut xs ls).headD 0, (shufOut xs ls).tail, shufLots xs ls) by unfold rNext; rw [rDrop_none hno, if_pos rfl])
    clear hno
    go_wp2_with fail
    refine (shuffle_any d g a c xs ls _ (HX.out.alloc _) HLEN.out (HL.out.mod ((Mod.refl [] _).alloc _) (by simp) (by simp))).mono ?_
    rintro e w2 ⟨g', rfl, hg', hO, hLo, hM⟩
    have hO' : OwnInts w2 g' (shufOut xs ls) := hO
    have hlen := shufOut_length xs ls
    obtain ⟨x, hx⟩ : ∃ x, (shufOut xs ls).getD 0 0 = x := ⟨_, rfl⟩
    have hcx := hO'.cell (j := 0) (by omega)
    rw [hx] at hcx
    obtain ⟨m, hm⟩ : ∃ m, xs.length = m := ⟨_, rfl⟩
    have hxl := HLEN.out
    rw [hm] at hxl hp hlen hnz
    simp at hg'
    have r1 : w2.cell? ⟨r, 0, none⟩ = some (.slice ra n rc) := (hM.cell (by simp; omega) (by simpa using hrd)).trans ((((Mod.refl [] w).alloc _).cell q6 (by simp)).trans q1)
    have r2 : w2.frozen? ⟨r, 0, none⟩ = false := (hM.frozen (by simp; omega) (by simpa using hrd)).trans ((((Mod.refl [] w).alloc _).frozen q6 (by simp)).trans q2)
    have hset : (w2.setCell ⟨r, 0, none⟩ (.slice (some ⟨g', 0, none⟩) m m)).cell? ⟨g', 0, none⟩ = some (.int .i64 x) := (cell_set_far _ _ _ _ (by simp; omega)).trans hcx
    have hset0 := cell_set_same (v := .slice (some ⟨g', 0, none⟩) m m) r1
    have HX0 := Lib.hid hx
    have HO := Lib.hid hO'
    have HLO := Lib.hid (show LotsAt w2 d g (shufLots xs ls) from hLo)
    have HM := Lib.hid (((Mod.refl [d] w).alloc _).trans hM)
    have HLN := Lib.hid hlen
    have HG := Lib.hid hg'
    rw [hm]
    clear hx hO hO' hLo hM hlen hg' hcx hm
    by_cases hm1 : m = 1
    · subst hm1
      go_wp2_with fail
      go_ret2
      have hsx : (shufOut xs ls).headD 0 = x := by rw [← HX0.out]; cases shufOut xs ls <;> rfl
      rw [HRN.out, hsx]
      have hMs : Mod [d, r] w ((w2.setCell ⟨r, 0, none⟩ (.slice (some ⟨g', 0, none⟩) 1 1)).setCell ⟨r, 0, none⟩ (.slice (some ⟨g', 0, none⟩) 0 0)) :=
        ((HM.out.mono (fun k _ hk => by simp at hk; simp [hk])).setCell (.inl (by simp)) _).setCell (.inl (by simp)) _
      refine ⟨rfl, ?_, HLO.out.mod (((Mod.refl [r] w2).setCell (.inl (by simp)) _).setCell (.inl (by simp)) _) (by simpa using Ne.symm hrd) (by simpa using Ne.symm hrg), hMs⟩
      rw [← List.drop_one]
      exact round_put (g := g') (off := 0) (k := 1) (L := shufOut xs ls) hset0 (by rw [World.frozen?_setCell]; exact r2) hrG (fun h => by have := HGL.out _ h; have := HG.out; omega) (by have := (Array.getElem?_eq_some_iff.1 HO.out).1; simpa [World.setCell] using this) (by have := HM.out.size; simp [World.setCell]; omega)
        (fun j y hj => (cell_set_far _ _ _ _ (by have := HG.out; simp; omega)).trans (by rw [Nat.zero_add]; have hjl := (List.getElem?_eq_some_iff.1 hj).1; rw [HO.out.cell hjl]; simp [List.getD, hj])) (by rw [List.length_drop, HLN.out]) (Nat.zero_le _) (by simp [maxLen]) (by simp) (fun h => absurd rfl h)
    · go_wp2_with fail
      go_ret2
      have hsx : (shufOut xs ls).headD 0 = x := by rw [← HX0.out]; cases shufOut xs ls <;> rfl
      rw [HRN.out, hsx]
      have hMs : Mod [d, r] w ((w2.setCell ⟨r, 0, none⟩ (.slice (some ⟨g', 0, none⟩) m m)).setCell ⟨r, 0, none⟩ (.slice (some ⟨g', 1, none⟩) (m - 1) (m - 1))) :=
        ((HM.out.mono (fun k _ hk => by simp at hk; simp [hk])).setCell (.inl (by simp)) _).setCell (.inl (by simp)) _
      refine ⟨rfl, ?_, HLO.out.mod (((Mod.refl [r] w2).setCell (.inl (by simp)) _).setCell (.inl (by simp)) _) (by simpa using Ne.symm hrd) (by simpa using Ne.symm hrg), hMs⟩
      rw [← List.drop_one]
      exact round_put (g := g') (off := 0) (k := 1) (L := shufOut xs ls) hset0 (by rw [World.frozen?_setCell]; exact r2) hrG (fun h => by have := HGL.out _ h; have := HG.out; omega) (by have := (Array.getElem?_eq_some_iff.1 HO.out).1; simpa [World.setCell] using this) (by have := HM.out.size; simp [World.setCell]; omega)
        (fun j y hj => (cell_set_far _ _ _ _ (by have := HG.out; simp; omega)).trans (by rw [Nat.zero_add]; have hjl := (List.getElem?_eq_some_iff.1 hj).1; rw [HO.out.cell hjl]; simp [List.getD, hj])) (by rw [List.length_drop, HLN.out]) (Nat.le_refl _) (by simp [maxLen]; omega) (by simp) (fun _ => by rw [Nat.zero_add])
  · have hL0 : L ≠ [] := by intro h; rw [h] at hk; simp at hk
    obtain ⟨g2, off, rfl, hg2, hlt2, hc2⟩ := Q7.out hL0
    have hkn : k < n := by rw [← HN.out]; exact (List.getElem?_eq_some_iff.1 hk).1
    have cx : w.cell? ⟨g2, off + k, none⟩ = some (.int .i64 x) := hc2 k x hk
    have hrc : rc ≤ 9223372036854775807 := by have := Q4.out; simpa [maxLen] using this
    have hkw : wrap64 ((k : Int) + 1) = (k : Int) + 1 := wrap_small (by omega) (by omega)
    have HRN := Lib.hid (show rNext L xs ls = (x, L.drop (k + 1), ls) by unfold rNext; rw [rDrop_at hk htk hin]; simp)
    have HC2 := Lib.hid hc2
    have HD := Lib.hid (show (L.drop (k + 1)).length = n - (k + 1) by rw [List.length_drop, HN.out])
    have HG2 := Lib.hid hg2
    clear hk htk hin hc2 hL0 hg2
    by_cases hcap : rc = k + 1
    · subst hcap
      obtain rfl : n = k + 1 := by omega
      go_wp2_with fail
      go_ret2
      rw [HRN.out]
      refine ⟨rfl, RoundAt.same ?_ ((Mod.refl [] _).alloc _), HL.out.mod (((Mod.refl [r] w).setCell (.inl (by simp)) _).alloc _) (by simpa using Ne.symm hrd) (by simpa using Ne.symm hrg), ((Mod.refl _ w).setCell (.inl (by simp)) _).alloc _⟩
      exact round_put q1 q2 hrG HG2.out hlt2 q6 HC2.out (by rw [HD.out]; simp) (Nat.zero_le _) (by simp [maxLen]) (by simp) (fun h => absurd rfl h)
    · go_wp2_with fail
      go_ret2
      rw [HRN.out]
      refine ⟨rfl, RoundAt.same ?_ ((Mod.refl [] _).alloc _), HL.out.mod (((Mod.refl [r] w).setCell (.inl (by simp)) _).alloc _) (by simpa using Ne.symm hrd) (by simpa using Ne.symm hrg), ((Mod.refl _ w).setCell (.inl (by simp)) _).alloc _⟩
      exact round_put q1 q2 hrG HG2.out hlt2 q6 HC2.out HD.out (by omega) (by simp [maxLen]; omega) (by simp) (fun _ => rfl)

end Go.Proofs.YtaaaiggbnkeblaaGreatDoor

namespace Go.Proofs.YtaaaiggbnkeblaaGreatDoor
open Go.RowKit

def insAt (k : Nat) (y : Int) (xs : List Int) : List Int := xs.take k ++ y :: xs.drop k

def InsPost (w : World) (zs : List Int) (e : Ending) (w' : World) : Prop :=
  ∃ g c, e = .returned (.slice (some ⟨g, 0, none⟩) zs.length c) ∧ w.heap.size ≤ g ∧ g < w'.heap.size ∧ zs.length ≤ c ∧ c ≤ maxLen ∧ (∀ j x, zs[j]? = some x → w'.cell? ⟨g, j, none⟩ = some (.int .i64 x)) ∧ Mod [] w w'

theorem ins_row {α : Type} (Z X1 X2 : List α) (v : α) (k : Nat) (hk : X1.length = k) (hZ : Z.take k = X1) : ∃ E, splice (splice Z k [v]) (k + 1) X2 = X1 ++ v :: X2 ++ E := by
  have h1 : splice Z k [v] = X1 ++ v :: Z.drop (k + 1) := by simp [splice, hZ]
  rw [h1]
  refine ⟨(X1 ++ v :: Z.drop (k + 1)).drop (k + 1 + X2.length), ?_⟩
  unfold splice
  have h2 : (X1 ++ v :: Z.drop (k + 1)).take (k + 1) = X1 ++ [v] := by
    rw [← hk, List.take_append]
    simp
    exact List.take_of_length_le (by omega)
  rw [h2]
  simp

theorem row_cells {w : World} {g : Nat} {zs : List Int} {E : List Value} {t : TypeId} (h : w.heap[g]? = some (.cells (zs.map (Value.int .i64) ++ E).toArray t (0, 0))) (j : Nat) (x : Int) (hj : zs[j]? = some x) : w.cell? ⟨g, j, none⟩ = some (.int .i64 x) := by
  refine cell_in h ?_
  have hl : j < zs.length := (List.getElem?_eq_some_iff.1 hj).1
  simp
  rw [List.getElem?_append_left (by simpa using hl)]
  simp [hj]

set_option maxRecDepth 100000 in
set_option maxHeartbeats 4000000 in
theorem insert_end (g b k : Nat) (y : Int) (xs : List Int) (w : World) (hO : OwnInts w g xs) (hb : w.heap[b]? = some (.cells #[.int .i64 y] 3 (0, 0))) (hk : k = xs.length) (hl : xs.length ≤ 1000) :
    Calls Tryz.prog 145 #[.slice (some ⟨g, 0, none⟩) xs.length xs.length, .int .i64 k, .slice (some ⟨b, 0, none⟩) 1 1] w (InsPost w (insAt k y xs)) := by
  subst hk
  obtain ⟨i, hi, hz, hsz, hby⟩ := info_parts Tryz.info_int
  obtain ⟨n, hn⟩ : ∃ n, xs.length = n := ⟨_, rfl⟩
  have hsrc : Src Tryz.prog i.size 67 (.slice (some ⟨b, 0, none⟩) 1 1) 1 [Value.int .i64 y] w :=
    Src.ofSlice w Tryz.underlying67 _ 1 1 [Value.int .i64 y] (by rw [hsz]; rfl) (fun j u hj => by
      rw [add_lit, Nat.zero_add]
      exact cell_in hb (by simpa using hj)) (by simp [Value.oneCell'])
  have hold : (Builtin.firstCells i.size n (.slice (some ⟨g, 0, none⟩) n n)).run Tryz.prog w.drew = .ok (xs.map (Value.int .i64)).toArray w.drew :=
    run_firstCells_some w.drew i.size n _ n n _ (by rw [hsz]; simp [hn]) (fun j u hj => by
      rw [add_lit, Nat.zero_add]
      exact cell_in (w := w.drew) hO (by simpa using hj))
  have hfit : Builtin.nextslicecap (n + 1) n * i.bytes ≤ 281474976710656 := by
    have h5 := nextslicecap_le_wide (show n < n + 1 by omega)
    rw [hby]
    omega
  have hrun := fun ty => run_append_grow_src (P := Tryz.prog) w 67 67 ty 3 i _ Tryz.underlying67 hi hz (some ⟨g, 0, none⟩) n n _ hold _ 1 [Value.int .i64 y] hsrc (by omega) (by omega) hfit
  have hge := grownCap_ge w (n + 1) n 3
  have hle := grownCap_le_maxLen w (n + 1) n 3 (by unfold maxLen; omega)
  obtain ⟨cc, hcc⟩ : ∃ cc, grownCap w (n + 1) n 3 = cc := ⟨_, rfl⟩
  rw [hcc] at hge hle
  obtain ⟨W1, hW1⟩ : ∃ W1, w.drew.alloc (.cells (((xs.map (Value.int .i64)) ++ [Value.int .i64 y]).toArray ++ Builtin.zeroCells (Value.int .i64 0).cells (grownCap w (n + 1) n 3 - (n + 1))) 3) = W1 := ⟨_, rfl⟩
  have hrow : W1.heap[w.heap.size]? = some (.cells ((insAt n y xs).map (Value.int .i64) ++ (Builtin.zeroCells (Value.int .i64 0).cells (grownCap w (n + 1) n 3 - (n + 1))).toList).toArray 3 (0, 0)) := by
    rw [← hW1]
    have := heap_new w.drew (.cells (((xs.map (Value.int .i64)) ++ [Value.int .i64 y]).toArray ++ Builtin.zeroCells (Value.int .i64 0).cells (grownCap w (n + 1) n 3 - (n + 1))) 3)
    refine Eq.trans this ?_
    congr 2
    unfold insAt
    rw [← hn]
    simp
  have hM : Mod [] w W1 := by rw [← hW1]; exact ((Mod.refl [] w).drew).alloc _
  rw [hW1] at hrun
  rw [hcc] at hrun
  have HRUN := Lib.hid hrun
  have HROW := Lib.hid hrow
  have HM := Lib.hid hM
  have hlen : (insAt n y xs).length = n + 1 := by unfold insAt; simp; omega
  have HLEN := Lib.hid hlen
  rw [hn] at hl ⊢
  clear hrun hrow hM hW1 hcc hold hsrc hfit hO hb hi hz hsz hby hlen hn
  go_enter Tryz.func145, Tryz.ntmps145
  go_wp2_with (at_builtin; refine Lib.wpList_append_run _ rfl _ _ _ _ rfl _ _ rfl rfl _ _ (HRUN.out _) ?_)
  go_ret
  exact ⟨w.heap.size, cc, by rw [HLEN.out]; rfl, Nat.le_refl _, (Array.getElem?_eq_some_iff.1 HROW.out).1, by rw [HLEN.out]; exact hge, hle, row_cells HROW.out, HM.out⟩

set_option maxRecDepth 100000 in
set_option maxHeartbeats 4000000 in
theorem insert_mid (g b k : Nat) (y : Int) (xs : List Int) (w : World) (hO : OwnInts w g xs) (hb : w.heap[b]? = some (.cells #[.int .i64 y] 3 (0, 0))) (hk : k < xs.length) (hl : xs.length ≤ 1000) :
    Calls Tryz.prog 145 #[.slice (some ⟨g, 0, none⟩) xs.length xs.length, .int .i64 k, .slice (some ⟨b, 0, none⟩) 1 1] w (InsPost w (insAt k y xs)) := by
  obtain ⟨i, hi, hz, hsz, hby⟩ := info_parts Tryz.info_int
  obtain ⟨n, hn⟩ : ∃ n, xs.length = n := ⟨_, rfl⟩
  have hgl : g < w.heap.size := (Array.getElem?_eq_some_iff.1 hO).1
  have hbl : b < w.heap.size := (Array.getElem?_eq_some_iff.1 hb).1
  rw [hn] at hk hl
  have hold : (Builtin.firstCells i.size k (.slice (some ⟨g, 0, none⟩) k n)).run Tryz.prog w.drew = .ok ((xs.take k).map (Value.int .i64)).toArray w.drew :=
    run_firstCells_some w.drew i.size k _ k n _ (by rw [hsz]; simp; omega) (fun j u hj => by
      rw [add_lit, Nat.zero_add]
      refine cell_in (w := w.drew) hO ?_
      have hjk : j < k := by have := (List.getElem?_eq_some_iff.1 hj).1; simp at this; omega
      rw [List.map_take, List.getElem?_take_of_lt hjk] at hj
      simpa using hj)
  have hfit : Builtin.nextslicecap (k + (n + 1 - k)) n * i.bytes ≤ 281474976710656 := by
    have h5 := nextslicecap_le_wide (show n < k + (n + 1 - k) by omega)
    rw [hby]
    omega
  have hrun := fun ty => Lib.run_append_grow_zeros (P := Tryz.prog) w 67 3 ty 3 i _ .i64 .i64 Tryz.underlying67 Tryz.underlying3 hi hz (some ⟨g, 0, none⟩) k n _ hold (n + 1 - k) (by omega) (by omega) (by omega) (by omega) (by rw [hby]; omega) hfit
  have hge := grownCap_ge w (k + (n + 1 - k)) n 3
  have hle := grownCap_le_maxLen w (k + (n + 1 - k)) n 3 (by unfold maxLen; omega)
  rw [show k + (n + 1 - k) = n + 1 by omega] at hrun hge hle
  obtain ⟨cc, hcc⟩ : ∃ cc, grownCap w (n + 1) n 3 = cc := ⟨_, rfl⟩
  rw [hcc] at hge hle hrun
  obtain ⟨W1, hW1⟩ : ∃ W1, w.drew.alloc (.cells (((xs.take k).map (Value.int .i64)).toArray ++ Builtin.zeroCells (Value.int .i64 0).cells (n + 1 - k) ++ Builtin.zeroCells (Value.int .i64 0).cells (cc - (n + 1))) 3) = W1 := ⟨_, rfl⟩
  obtain ⟨Z, hZ⟩ : ∃ Z, ((xs.take k).map (Value.int .i64)) ++ ((Builtin.zeroCells (Value.int .i64 0).cells (n + 1 - k)).toList ++ (Builtin.zeroCells (Value.int .i64 0).cells (cc - (n + 1))).toList) = Z := ⟨_, rfl⟩
  have hrow : W1.heap[w.heap.size]? = some (.cells Z.toArray 3 (0, 0)) := by
    rw [← hW1, ← hZ]
    refine Eq.trans (heap_new w.drew _) ?_
    congr 2
    simp
  have hZk : Z.take k = (xs.take k).map (Value.int .i64) := by
    rw [← hZ, List.take_append_of_le_length (by simp; omega)]
    exact List.take_of_length_le (by simp; omega)
  have hZl : n + 1 ≤ Z.length := by
    rw [← hZ]
    simp [size_zeroCells, Value.cells]
    omega
  have hM : Mod [] w W1 := by rw [← hW1]; exact ((Mod.refl [] w).drew).alloc _
  rw [hW1] at hrun
  have c0 : W1.cell? ⟨b, 0, none⟩ = some (.int .i64 y) := (hM.cell (p := ⟨b, 0, none⟩) hbl (by simp)).trans (cell_in hb rfl)
  have hsl : ((xs.drop k).map (Value.int .i64)).length = n - k := by simp [hn]
  have hsrc : ∀ W, Mod [] w W → ∀ j v, ((xs.drop k).map (Value.int .i64))[j]? = some v → W.cell? ((⟨g, k, none⟩ : Addr).add j) = some v := fun W hW j v hj => by
    rw [add_lit]
    have hc : w.cell? ⟨g, k + j, none⟩ = some v := by
      refine cell_in hO ?_
      rw [List.map_drop, List.getElem?_drop] at hj
      simpa using hj
    exact (hW.cell (p := ⟨g, k + j, none⟩) hgl (by simp)).trans hc
  obtain ⟨E, hE⟩ := ins_row Z ((xs.take k).map (Value.int .i64)) ((xs.drop k).map (Value.int .i64)) (.int .i64 y) k (by simp; omega) hZk
  have hlen : (insAt k y xs).length = n + 1 := by unfold insAt; simp; omega
  have hEE : splice (splice Z k [Value.int .i64 y]) (k + 1) ((xs.drop k).map (Value.int .i64)) = (insAt k y xs).map (Value.int .i64) ++ E := by rw [hE]; simp [insAt]
  rw [show ((n + 1 - k : Nat) : Int) = (n : Int) + 1 - k by omega] at hrun
  have HRUN := Lib.hid hrun
  have HROW := Lib.hid hrow
  have HM := Lib.hid hM
  have HSRC := Lib.hid hsrc
  have HSL := Lib.hid hsl
  have HEE := Lib.hid hEE
  have HZL := Lib.hid hZl
  have HC0 := Lib.hid c0
  have HLEN := Lib.hid hlen
  have hkn : ((k : Int) == (n : Int)) = false := by simp; omega
  rw [hn]
  clear hrun hrow hM hW1 hcc hold hfit hO hb hi hz hsz hby hZk hE hEE hlen hsrc hsl hZl c0 hZ hn
  go_enter Tryz.func145, Tryz.ntmps145
  have hmin : ([Value.int .i64 y] : List Value).length = Nat.min 1 (n + 1 - k) := by simp [Nat.min_def]; omega
  have HMIN := Lib.hid hmin
  clear hmin
  go_wp2_with (first | (at_builtin; refine Lib.wpList_append_run _ rfl (.tmp 34) (.tmp 39) 67 3 rfl (.slice (some ⟨g, 0, none⟩) k n) (.int .i64 ((n : Int) + 1 - k)) rfl rfl _ _ (HRUN.out _) ?_) | (with_reducible refine wpList_copy_splice rfl (.tmp 43) (.tmp 44) 67 67 rfl 3 Tryz.underlying67 Tryz.size_int (some ⟨w.heap.size, k, none⟩) (some ⟨b, 0, none⟩) (n + 1 - k) (cc - k) 1 1 rfl rfl w.heap.size k Z 3 HROW.out [Value.int .i64 y] HMIN.out ?hpos ?hfit ?h1 w.heap.size w HM.out.below (Nat.le_refl _) ?next))
  case hpos =>
    intro j v hj
    have hj0 : j = 0 := by have := (List.getElem?_eq_some_iff.1 hj).1; simp at this; exact this
    subst hj0
    simp at hj
    rw [← hj]
    exact HC0.out
  case hfit => have := HZL.out; simp; omega
  case h1 => intro v hv; simp at hv; rw [hv]; rfl
  case next =>
    intro w4 hg4 hb4
    have HM4 := Lib.hid (Mod.of_below (S := []) hb4)
    have HBD := Lib.hid ((HM4.out.drew).below)
    have hn2 : ((xs.drop k).map (Value.int .i64)).length = Nat.min (n - k) (n - k) := by rw [HSL.out]; simp
    have hpos2 : 0 < ((xs.drop k).map (Value.int .i64)).length → (some (⟨w.heap.size, k + 1, none⟩ : Addr) = some ⟨w.heap.size, k + 1, none⟩ ∧ ∃ ad, some (⟨g, k, none⟩ : Addr) = some ad ∧ ∀ j v, ((xs.drop k).map (Value.int .i64))[j]? = some v → w4.drew.cell? (ad.add j) = some v) :=
      fun _ => ⟨rfl, _, rfl, HSRC.out w4.drew HM4.out.drew⟩
    have hfit2 : k + 1 + ((xs.drop k).map (Value.int .i64)).length ≤ (splice Z k [Value.int .i64 y]).length := by
      rw [length_splice _ _ _ (by have := HZL.out; simp; omega), HSL.out]
      have := HZL.out
      omega
    have HN2 := Lib.hid hn2
    have HF2 := Lib.hid hfit2
    clear hn2 hpos2 hfit2 hb4
    have hcm : cc ≤ 9223372036854775807 := by simpa [maxLen] using hle
    have hc1 : ¬ cc = k + 1 := by omega
    have hc2 : ¬ cc - (k + 1) = 0 := by omega
    have hn3 : ¬ n = k := by omega
    have hn4 : ¬ n - k = 0 := by omega
    have hkn2 : k ≤ n := by omega
    have hk0 : (0 : Int) ≤ (k : Int) + 1 := by omega
    have hk00 : (0 : Int) ≤ (k : Int) := by omega
    have hkw : wrap64 ((k : Int) + 1) = (k : Int) + 1 := wrap_small (by omega) (by omega)
    have hkw2 : IntKind.i64.wrap ((k : Int) + 1) = (k : Int) + 1 := by simp [IntKind.wrap, IntKind.bits, IntKind.signed]; omega
    go_wp2_with fail
    go_region_law (refine step_copy_splice rfl (.tmp 50) (.tmp 53) 67 67 rfl 3 Tryz.underlying67 Tryz.size_int (some ⟨w.heap.size, k + 1, none⟩) (some ⟨g, k, none⟩) (n - k) (cc - (k + 1)) (n - k) (n - k) (by simp [Act.eval, Act.put]) (by simp [Act.eval, Act.put]) w.heap.size (k + 1) (splice Z k [Value.int .i64 y]) 3 hg4.out ((xs.drop k).map (Value.int .i64)) (by rw [HSL.out]; simp) (fun _ => ⟨rfl, _, rfl, fun j v hj => HSRC.out w4.drew HM4.out.drew j v hj⟩) HF2.out (ints_oneCell _ _) w.heap.size w HBD.out (Nat.le_refl _) ?_; intro w5 hg5 hb5)
    all_goals
      have HM5 := Lib.hid (Mod.of_below (S := []) hb5)
      have hg6 := hg5.out
      rw [HEE.out] at hg6
      have HG6 := Lib.hid hg6
      clear hg6 hg5 hb5
      go_wp2_with fail
      go_ret
      exact ⟨w.heap.size, cc, by rw [HLEN.out]; rfl, Nat.le_refl _, (Array.getElem?_eq_some_iff.1 HG6.out).1, by rw [HLEN.out]; exact hge, hle, row_cells HG6.out, HM5.out⟩

theorem insert_any (g b k : Nat) (y : Int) (xs : List Int) (w : World) (hO : OwnInts w g xs) (hb : w.heap[b]? = some (.cells #[.int .i64 y] 3 (0, 0))) (hk : k ≤ xs.length) (hl : xs.length ≤ 1000) :
    Calls Tryz.prog 145 #[.slice (some ⟨g, 0, none⟩) xs.length xs.length, .int .i64 k, .slice (some ⟨b, 0, none⟩) 1 1] w (InsPost w (insAt k y xs)) := by
  by_cases h : k = xs.length
  · exact insert_end g b k y xs w hO hb h hl
  · exact insert_mid g b k y xs w hO hb (by omega) hl

end Go.Proofs.YtaaaiggbnkeblaaGreatDoor

namespace Go.Proofs.YtaaaiggbnkeblaaGreatDoor

theorem swapAt_count (l : List Int) (i k : Nat) (hi : i < l.length) (hk : k < l.length) (x : Int) : (swapAt l i k).count x = l.count x := by
  unfold swapAt
  have h1 : l.getD k 0 = l[k] := by simp [List.getD, hk]
  have h2 : l.getD i 0 = l[i] := by simp [List.getD, hi]
  rw [h1, h2, List.count_set (by simpa using hk), List.count_set hi, List.getElem_set]
  have p1 : 0 < l.count l[i] := List.count_pos_iff.2 (List.getElem_mem hi)
  have p2 : 0 < l.count l[k] := List.count_pos_iff.2 (List.getElem_mem hk)
  by_cases e : i = k
  · subst e
    by_cases e1 : l[i] = x
    · subst e1; simp
    · simp [e1]
  · by_cases e1 : l[i] = x <;> by_cases e2 : l[k] = x
    · subst e1; simp [e, e2]
    · subst e1; simp [e, e2]
    · subst e2; simp [e, e1]
    · simp [e, e1, e2]

theorem shufLoop_count : ∀ (i : Nat) (out ls : List Int), (i < out.length ∨ i = 0) → ∀ x, (shufLoop i out ls).1.count x = out.count x
  | 0, _, _, _, _ => rfl
  | i + 1, out, ls, h, x => by
    have hi : i + 1 < out.length := by omega
    have hb := lotBelow_range ls ((i : Int) + 2)
    have hb2 := hb.2 (by omega)
    rw [shufLoop, shufLoop_count i _ _ (by simp [swapAt]; omega), swapAt_count _ _ _ hi (by omega)]

theorem shufOut_count (xs ls : List Int) (x : Int) : (shufOut xs ls).count x = xs.count x :=
  shufLoop_count _ _ _ (by omega) x

theorem shufOut_mem {xs ls : List Int} {x : Int} (h : x ∈ shufOut xs ls) : x ∈ xs :=
  List.count_pos_iff.1 (by rw [← shufOut_count xs ls x]; exact List.count_pos_iff.2 h)

theorem shufOut_perm' (xs ls : List Int) : (shufOut xs ls).Perm xs := List.perm_iff_count.2 fun x => shufOut_count xs ls x

end Go.Proofs.YtaaaiggbnkeblaaGreatDoor

namespace Go.Proofs.YtaaaiggbnkeblaaGreatDoor
set_option linter.unusedSimpArgs false
set_option linter.unusedVariables false
open Go.RowKit

/-- Of block r only cell o is another one. -/
def Kept (r o : Nat) (w w' : World) : Prop := ∀ j, (j ≠ o → w'.cell? ⟨r, j, none⟩ = w.cell? ⟨r, j, none⟩) ∧ w'.frozen? ⟨r, j, none⟩ = w.frozen? ⟨r, j, none⟩
theorem Kept.refl (r o : Nat) (w : World) : Kept r o w w := fun _ => ⟨fun _ => rfl, rfl⟩
theorem Kept.mod {r o : Nat} {S : List Nat} {a b c : World} (h : Kept r o a b) (hm : Mod S b c) (hl : r < b.heap.size) (hs : r ∉ S) : Kept r o a c := fun j =>
  ⟨fun hj => (hm.cell (p := ⟨r, j, none⟩) hl hs).trans ((h j).1 hj), (hm.frozen (p := ⟨r, j, none⟩) hl hs).trans (h j).2⟩
theorem Kept.set {r o : Nat} {a b : World} (h : Kept r o a b) (v : Value) : Kept r o a (b.setCell ⟨r, o, none⟩ v) := fun j =>
  ⟨fun hj => (cell_set_off _ _ _ _ (by simp; exact fun e => hj e.symm)).trans ((h j).1 hj), (frozen_set _ _ _ _).trans (h j).2⟩
theorem Kept.trans {r o : Nat} {a b c : World} (h : Kept r o a b) (k : Kept r o b c) : Kept r o a c := fun j =>
  ⟨fun hj => ((k j).1 hj).trans ((h j).1 hj), (k j).2.trans (h j).2⟩

/-- A Round at block r, what is left; its list lies in none of the blocks G. -/
def RoundO (G : List Nat) (w : World) (r : Nat) (L : List Int) : Prop :=
  ∃ a c, w.cell? ⟨r, 1, none⟩ = some (.slice a L.length c) ∧ w.frozen? ⟨r, 1, none⟩ = false ∧ L.length ≤ c ∧ c ≤ maxLen ∧ (a = none → c = 0) ∧ r < w.heap.size ∧
    (L ≠ [] → ∃ g off, a = some ⟨g, off, none⟩ ∧ g ∉ G ∧ g < w.heap.size ∧ ∀ j x, L[j]? = some x → w.cell? ⟨g, off + j, none⟩ = some (.int .i64 x))

theorem RoundO.mod {G S : List Nat} {w w' : World} {r : Nat} {L : List Int} (h : RoundO G w r L) (hm : Mod S w w') (hr : r ∉ S) (hS : ∀ s ∈ S, s ∈ G) : RoundO G w' r L := by
  obtain ⟨a, c, h1, h2, h3, h4, h5, h6, h7⟩ := h
  refine ⟨a, c, (hm.cell h6 hr).trans h1, (hm.frozen h6 hr).trans h2, h3, h4, h5, Nat.lt_of_lt_of_le h6 hm.size, fun hne => ?_⟩
  obtain ⟨g, off, ha, hg, hlt, hc⟩ := h7 hne
  exact ⟨g, off, ha, hg, Nat.lt_of_lt_of_le hlt hm.size, fun j x hj => (hm.cell hlt (fun hs => hg (hS _ hs))).trans (hc j x hj)⟩

theorem RoundO.same {G : List Nat} {w w' : World} {r : Nat} {L : List Int} (h : RoundO G w r L) (hm : Mod [] w w') : RoundO G w' r L := h.mod hm (by simp) (by simp)

def RNextPost1 (G : List Nat) (w : World) (r d g : Nat) (N : Int × List Int × List Int) (e : Ending) (w' : World) : Prop :=
  e = .returned (.tuple #[.int .i64 N.1, .bool true]) ∧ RoundO G w' r N.2.1 ∧ LotsAt w' d g N.2.2 ∧ Mod [d, r] w w' ∧ Kept r 1 w w'

theorem round_put1 {G : List Nat} {w : World} {r g off n c k : Nat} {L : List Int} {a : Option Addr} {u : Value} (h1 : w.cell? ⟨r, 1, none⟩ = some u) (h2 : w.frozen? ⟨r, 1, none⟩ = false) (hr : r ∈ G) (hg : g ∉ G) (hlt : g < w.heap.size) (hrl : r < w.heap.size)
    (hc : ∀ j x, L[j]? = some x → w.cell? ⟨g, off + j, none⟩ = some (.int .i64 x)) (hn : (L.drop k).length = n) (hcap : n ≤ c) (hm : c ≤ maxLen) (ha0 : a = none → c = 0) (ha : n ≠ 0 → a = some ⟨g, off + k, none⟩) :
    RoundO G (w.setCell ⟨r, 1, none⟩ (.slice a n c)) r (L.drop k) := by
  refine ⟨a, c, by rw [hn]; exact cell_set_same h1, by rw [World.frozen?_setCell]; exact h2, by omega, hm, ha0, by simpa [World.setCell] using hrl, fun hne => ⟨g, off + k, ha (by rw [← hn]; intro e; exact hne (List.eq_nil_of_length_eq_zero e)), hg, by simpa [World.setCell] using hlt, fun j x hj => ?_⟩⟩
  rw [cell_set_far _ _ _ _ (by intro e; simp at e; rw [e] at hr; exact hg hr), Nat.add_assoc]
  exact hc (k + j) x (by rw [List.getElem?_drop] at hj; exact hj)

set_option maxHeartbeats 4000000 in
theorem rnext_any1 (G : List Nat) (r d g : Nat) (a : Option Addr) (c : Nat) (xs L ls : List Int) (w : World) (hR : RoundO G w r L) (hL : LotsAt w d g ls) (hx : RdInts .i64 w a xs) (hne : xs ≠ []) (hlen : xs.length * 8 ≤ 140737488351232)
    (hrG : r ∈ G) (hGl : ∀ s ∈ G, s < w.heap.size) (hrd : r ≠ d) (hrg : r ≠ g) :
    Calls Tryz.prog 56 #[.pointer (some ⟨r, 1, none⟩), .slice a xs.length c, .pointer (some ⟨d, 0, none⟩)] w (RNextPost1 G w r d g (rNext L xs ls)) := by
  have hp : 0 < xs.length := List.length_pos_iff.2 hne
  have hnz : ((xs.length : Int) == 0) = false := by simp; omega
  obtain ⟨ra, rc, q1, q2, q3, q4, q5, q6, q7⟩ := hR
  have hrd' : RdInts .i64 w ra L := fun h0 => by
    obtain ⟨g, off, rfl, _, hlt, hc⟩ := q7 h0
    exact ⟨_, rfl, hlt, fun j x hj => by rw [add_lit]; exact hc j x hj⟩
  obtain ⟨n, hn⟩ : ∃ n, L.length = n := ⟨_, rfl⟩
  have hmf : ∀ fn first cap w, (Instr.makeFunc fn first cap).run Tryz.prog w = .ok (.func fn first cap) w := fun _ _ _ _ => rfl
  have HX := Lib.hid hx
  have HRD := Lib.hid hrd'
  have HL := Lib.hid hL
  have HLEN := Lib.hid hlen
  have HGL := Lib.hid hGl
  have Q7 := Lib.hid q7
  have Q5 := Lib.hid q5
  have Q4 := Lib.hid q4
  have HN := Lib.hid hn
  rw [hn] at q1 q3
  clear hx hL hlen hGl hrd' q7 q5 q4 hn hne
  go_enter Tryz.func56, Tryz.ntmps56
  have hidx := indexfunc_any w.heap.size a c xs ra rc L (w.alloc (.cells #[.slice a xs.length c] 67)) (cell_in (heap_new _ _) rfl) (HX.out.alloc _) (by have := HLEN.out; omega) (HRD.out.alloc _) (by have := HN.out; have := Q4.out; simp only [maxLen] at this; omega)
  rw [HN.out] at hidx
  have HIDX := Lib.hid hidx
  clear hidx
  go_wp2_with fail
  refine HIDX.out.mono ?_
  rintro e w1 ⟨⟨i, rfl, hi⟩, rfl⟩
  rcases hi with ⟨rfl, hno⟩ | ⟨k, x, rfl, hk, htk, hin⟩
  · have HRN := Lib.hid (show rNext L xs ls = ((shufOut xs ls).headD 0, (shufOut xs ls).tail, shufLots xs ls) by unfold rNext; rw [rDrop_none hno, if_pos rfl])
    clear hno
    go_wp2_with fail
    refine (shuffle_any d g a c xs ls _ (HX.out.alloc _) HLEN.out (HL.out.mod ((Mod.refl [] _).alloc _) (by simp) (by simp))).mono ?_
    rintro e w2 ⟨g', rfl, hg', hO, hLo, hM⟩
    have hO' : OwnInts w2 g' (shufOut xs ls) := hO
    have hlen := shufOut_length xs ls
    obtain ⟨x, hx⟩ : ∃ x, (shufOut xs ls).getD 0 0 = x := ⟨_, rfl⟩
    have hcx := hO'.cell (j := 0) (by omega)
    rw [hx] at hcx
    obtain ⟨m, hm⟩ : ∃ m, xs.length = m := ⟨_, rfl⟩
    have hxl := HLEN.out
    rw [hm] at hxl hp hlen hnz
    simp at hg'
    have r1 : w2.cell? ⟨r, 1, none⟩ = some (.slice ra n rc) := (hM.cell (by simp; omega) (by simpa using hrd)).trans ((((Mod.refl [] w).alloc _).cell q6 (by simp)).trans q1)
    have r2 : w2.frozen? ⟨r, 1, none⟩ = false := (hM.frozen (by simp; omega) (by simpa using hrd)).trans ((((Mod.refl [] w).alloc _).frozen q6 (by simp)).trans q2)
    have hset : (w2.setCell ⟨r, 1, none⟩ (.slice (some ⟨g', 0, none⟩) m m)).cell? ⟨g', 0, none⟩ = some (.int .i64 x) := (cell_set_far _ _ _ _ (by simp; omega)).trans hcx
    have hset0 := cell_set_same (v := .slice (some ⟨g', 0, none⟩) m m) r1
    have HX0 := Lib.hid hx
    have HO := Lib.hid hO'
    have HLO := Lib.hid (show LotsAt w2 d g (shufLots xs ls) from hLo)
    have HM := Lib.hid (((Mod.refl [d] w).alloc _).trans hM)
    have HLN := Lib.hid hlen
    have HG := Lib.hid hg'
    rw [hm]
    clear hx hO hO' hLo hM hlen hg' hcx hm
    by_cases hm1 : m = 1
    · subst hm1
      go_wp2_with fail
      go_ret2
      have hsx : (shufOut xs ls).headD 0 = x := by rw [← HX0.out]; cases shufOut xs ls <;> rfl
      rw [HRN.out, hsx]
      have hMs : Mod [d, r] w ((w2.setCell ⟨r, 1, none⟩ (.slice (some ⟨g', 0, none⟩) 1 1)).setCell ⟨r, 1, none⟩ (.slice (some ⟨g', 0, none⟩) 0 0)) :=
        ((HM.out.mono (fun k _ hk => by simp at hk; simp [hk])).setCell (.inl (by simp)) _).setCell (.inl (by simp)) _
      refine ⟨rfl, ?_, HLO.out.mod (((Mod.refl [r] w2).setCell (.inl (by simp)) _).setCell (.inl (by simp)) _) (by simpa using Ne.symm hrd) (by simpa using Ne.symm hrg), hMs, (((Kept.refl r 1 w).mod HM.out q6 (by simpa using hrd)).set _).set _⟩
      rw [← List.drop_one]
      exact round_put1 (g := g') (off := 0) (k := 1) (L := shufOut xs ls) hset0 (by rw [World.frozen?_setCell]; exact r2) hrG (fun h => by have := HGL.out _ h; have := HG.out; omega) (by have := (Array.getElem?_eq_some_iff.1 HO.out).1; simpa [World.setCell] using this) (by have := HM.out.size; simp [World.setCell]; omega)
        (fun j y hj => (cell_set_far _ _ _ _ (by have := HG.out; simp; omega)).trans (by rw [Nat.zero_add]; have hjl := (List.getElem?_eq_some_iff.1 hj).1; rw [HO.out.cell hjl]; simp [List.getD, hj])) (by rw [List.length_drop, HLN.out]) (Nat.zero_le _) (by simp [maxLen]) (by simp) (fun h => absurd rfl h)
    · go_wp2_with fail
      go_ret2
      have hsx : (shufOut xs ls).headD 0 = x := by rw [← HX0.out]; cases shufOut xs ls <;> rfl
      rw [HRN.out, hsx]
      have hMs : Mod [d, r] w ((w2.setCell ⟨r, 1, none⟩ (.slice (some ⟨g', 0, none⟩) m m)).setCell ⟨r, 1, none⟩ (.slice (some ⟨g', 1, none⟩) (m - 1) (m - 1))) :=
        ((HM.out.mono (fun k _ hk => by simp at hk; simp [hk])).setCell (.inl (by simp)) _).setCell (.inl (by simp)) _
      refine ⟨rfl, ?_, HLO.out.mod (((Mod.refl [r] w2).setCell (.inl (by simp)) _).setCell (.inl (by simp)) _) (by simpa using Ne.symm hrd) (by simpa using Ne.symm hrg), hMs, (((Kept.refl r 1 w).mod HM.out q6 (by simpa using hrd)).set _).set _⟩
      rw [← List.drop_one]
      exact round_put1 (g := g') (off := 0) (k := 1) (L := shufOut xs ls) hset0 (by rw [World.frozen?_setCell]; exact r2) hrG (fun h => by have := HGL.out _ h; have := HG.out; omega) (by have := (Array.getElem?_eq_some_iff.1 HO.out).1; simpa [World.setCell] using this) (by have := HM.out.size; simp [World.setCell]; omega)
        (fun j y hj => (cell_set_far _ _ _ _ (by have := HG.out; simp; omega)).trans (by rw [Nat.zero_add]; have hjl := (List.getElem?_eq_some_iff.1 hj).1; rw [HO.out.cell hjl]; simp [List.getD, hj])) (by rw [List.length_drop, HLN.out]) (Nat.le_refl _) (by simp [maxLen]; omega) (by simp) (fun _ => by rw [Nat.zero_add])
  · have hL0 : L ≠ [] := by intro h; rw [h] at hk; simp at hk
    obtain ⟨g2, off, rfl, hg2, hlt2, hc2⟩ := Q7.out hL0
    have hkn : k < n := by rw [← HN.out]; exact (List.getElem?_eq_some_iff.1 hk).1
    have cx : w.cell? ⟨g2, off + k, none⟩ = some (.int .i64 x) := hc2 k x hk
    have hrc : rc ≤ 9223372036854775807 := by have := Q4.out; simpa [maxLen] using this
    have hkw : wrap64 ((k : Int) + 1) = (k : Int) + 1 := wrap_small (by omega) (by omega)
    have HRN := Lib.hid (show rNext L xs ls = (x, L.drop (k + 1), ls) by unfold rNext; rw [rDrop_at hk htk hin]; simp)
    have HC2 := Lib.hid hc2
    have HD := Lib.hid (show (L.drop (k + 1)).length = n - (k + 1) by rw [List.length_drop, HN.out])
    have HG2 := Lib.hid hg2
    clear hk htk hin hc2 hL0 hg2
    by_cases hcap : rc = k + 1
    · subst hcap
      obtain rfl : n = k + 1 := by omega
      go_wp2_with fail
      go_ret2
      rw [HRN.out]
      refine ⟨rfl, RoundO.same ?_ ((Mod.refl [] _).alloc _), HL.out.mod (((Mod.refl [r] w).setCell (.inl (by simp)) _).alloc _) (by simpa using Ne.symm hrd) (by simpa using Ne.symm hrg), ((Mod.refl _ w).setCell (.inl (by simp)) _).alloc _, ((Kept.refl r 1 w).set _).mod ((Mod.refl [] _).alloc _) (by simpa [World.setCell] using q6) (by simp)⟩
      exact round_put1 q1 q2 hrG HG2.out hlt2 q6 HC2.out (by rw [HD.out]; simp) (Nat.zero_le _) (by simp [maxLen]) (by simp) (fun h => absurd rfl h)
    · go_wp2_with fail
      go_ret2
      rw [HRN.out]
      refine ⟨rfl, RoundO.same ?_ ((Mod.refl [] _).alloc _), HL.out.mod (((Mod.refl [r] w).setCell (.inl (by simp)) _).alloc _) (by simpa using Ne.symm hrd) (by simpa using Ne.symm hrg), ((Mod.refl _ w).setCell (.inl (by simp)) _).alloc _, ((Kept.refl r 1 w).set _).mod ((Mod.refl [] _).alloc _) (by simpa [World.setCell] using q6) (by simp)⟩
      exact round_put1 q1 q2 hrG HG2.out hlt2 q6 HC2.out HD.out (by omega) (by simp [maxLen]; omega) (by simp) (fun _ => rfl)

theorem RoundO.rd {G : List Nat} {w : World} {r : Nat} {L : List Int} (h : RoundO G w r L) : ∃ a c, w.cell? ⟨r, 1, none⟩ = some (.slice a L.length c) ∧ RdInts .i64 w a L := by
  obtain ⟨ra, rc, q1, q2, q3, q4, q5, q6, q7⟩ := h
  refine ⟨ra, rc, q1, fun h0 => ?_⟩
  obtain ⟨g, off, rfl, _, hlt, hc⟩ := q7 h0
  exact ⟨_, rfl, hlt, fun j x hj => by rw [add_lit]; exact hc j x hj⟩

def LeftPost1 (w : World) (L : List Int) (e : Ending) (w' : World) : Prop :=
  ∃ g', e = .returned (.slice (some ⟨g', 0, none⟩) L.length L.length) ∧ w.heap.size ≤ g' ∧ OwnInts w' g' L ∧ Mod [] w w'

set_option maxHeartbeats 1000000 in
theorem rleft_any1 (G : List Nat) (r : Nat) (L : List Int) (w : World) (h : RoundO G w r L) (hl : L.length ≤ 1000000) :
    Calls Tryz.prog 146 #[.pointer (some ⟨r, 1, none⟩)] w (LeftPost1 w L) := by
  obtain ⟨a, c, h1, hr⟩ := h.rd
  have hmk := run_make_row' (P := Tryz.prog) 67 3 (.int .i64 0) 8 Tryz.underlying67 Tryz.info_int rfl .i64 .i64 L.length (by omega) (by omega)
  have hrl := block_lt_of_cell h1
  have HR := Lib.hid hr
  clear hr h
  go_enter Tryz.func146, Tryz.ntmps146
  go_wp2_with (with_reducible refine wpList_copy_full rfl (.tmp 10) (.tmp 14) 67 67 rfl 3 Tryz.underlying67 Tryz.size_int .i64 L w.heap.size L.length c a rfl rfl (madeCells #[.int .i64 0] L.length) 3 ?hg ?hcur ?hsrc ?next)
  case hg => first | exact heap_new _ _ | exact (Array.getElem?_eq_some_iff.1 (heap_new _ _)).2
  case hcur => simp [madeCells]
  case hsrc => exact HR.out.alloc _
  case next =>
    intro w1 hrow hgr hsz
    have HROW := Lib.hid hrow
    have HGR := Lib.hid hgr
    clear hrow hgr
    go_wp2
    go_ret
    exact ⟨w.heap.size, rfl, Nat.le_refl _, HROW.out, ((Mod.refl [] w).alloc _).grown HGR.out (.inr (Nat.le_refl _))⟩

def joinK (L ls : List Int) : Nat := (lotBelow ls ((L.length : Int) + 1)).toNat
def joinL (L : List Int) (y : Int) (ls : List Int) : List Int := if y ∈ L then L else insAt (joinK L ls) y L
def joinR (L : List Int) (y : Int) (ls : List Int) : List Int := if y ∈ L then ls else lotRest ls ((L.length : Int) + 1)

def JoinPost1 (G : List Nat) (w : World) (r d g : Nat) (L ls : List Int) (y : Int) (e : Ending) (w' : World) : Prop :=
  e = .returned (.tuple #[]) ∧ RoundO G w' r (joinL L y ls) ∧ LotsAt w' d g (joinR L y ls) ∧ Mod [d, r] w w' ∧ Kept r 1 w w'

set_option maxHeartbeats 4000000 in
theorem join_any1 (G : List Nat) (r d g : Nat) (y : Int) (L ls : List Int) (w : World) (hR : RoundO G w r L) (hL : LotsAt w d g ls) (hl : L.length ≤ 1000) (hrG : r ∈ G) (hdG : d ∈ G) (hGl : ∀ s ∈ G, s < w.heap.size) (hrd : r ≠ d) (hrg : r ≠ g) :
    Calls Tryz.prog 100 #[.pointer (some ⟨r, 1, none⟩), .int .i64 y, .pointer (some ⟨d, 0, none⟩)] w (JoinPost1 G w r d g L ls y) := by
  obtain ⟨a, c, h1, hrdL⟩ := hR.rd
  have hrl := block_lt_of_cell h1
  obtain ⟨n, hn⟩ : ∃ n, L.length = n := ⟨_, rfl⟩
  have hcon := contains_any a c L y w hrdL (by omega)
  rw [hn] at hcon h1 hl
  have HR := Lib.hid hR
  have HL := Lib.hid hL
  have HCON := Lib.hid hcon
  have HN := Lib.hid hn
  have HG := Lib.hid hGl
  have HRG := Lib.hid (And.intro hrG hdG)
  clear hR hL hcon hrdL hn hGl hrG hdG
  by_cases hy : y ∈ L
  · have HY := Lib.hid hy
    clear hy
    go_enter Tryz.func100, Tryz.ntmps100
    go_wp2_with fail
    refine HCON.out.mono ?_
    rintro e w1 ⟨rfl, rfl⟩
    rw [decide_eq_true HY.out]
    go_wp2_with fail
    refine bodyPost_ret (results_none rfl _ _ _) rfl ?_
    refine ⟨rfl, ?_, ?_, Mod.refl _ _, Kept.refl _ _ _⟩
    · unfold joinL; rw [if_pos HY.out]; exact HR.out
    · unfold joinR; rw [if_pos HY.out]; exact HL.out
  · have HY := Lib.hid hy
    clear hy
    obtain ⟨k, hk⟩ : ∃ k, joinK L ls = k := ⟨_, rfl⟩
    have hkb := lotBelow_range ls ((L.length : Int) + 1)
    have hkn : k ≤ n := by have := hkb.2 (by omega); have := HN.out; unfold joinK at hk; omega
    have HKI := Lib.hid (show lotBelow ls ((n : Int) + 1) = (k : Int) by have := hkb.1; rw [← HN.out, ← hk]; unfold joinK; omega)
    have HK := Lib.hid hk
    have hw1 : wrap64 ((n : Int) + 1) = (n : Int) + 1 := wrap_small (by omega) (by omega)
    clear hk hkb
    go_enter Tryz.func100, Tryz.ntmps100
    go_wp2_with fail
    refine HCON.out.mono ?_
    rintro e w1 ⟨rfl, rfl⟩
    rw [decide_eq_false HY.out]
    go_wp2_with fail
    refine (below_is d g ls ((n : Int) + 1) ((n : Int) + 1) k _ HL.out (by omega) rfl HKI.out).mono ?_
    rintro e w2 ⟨rfl, hL2, hM2⟩
    have HR2 := Lib.hid (HR.out.mod hM2 (by simpa using hrd) (by intro s hs; simp at hs; rw [hs]; exact HRG.out.2))
    have HL2 := Lib.hid hL2
    have HM2 := Lib.hid hM2
    clear hL2 hM2
    go_wp2_with fail
    refine (rleft_any1 G r L _ HR2.out (by have := HN.out; omega)).mono ?_
    rintro e w3 ⟨g', rfl, hg', hO, hM3⟩
    have HR3 := Lib.hid (HR2.out.same hM3)
    have HL3 := Lib.hid (HL2.out.mod hM3 (by simp) (by simp))
    have HM3 := Lib.hid (HM2.out.trans (hM3.mono (by simp)))
    have hins := insert_any g' w3.heap.size k y L (w3.alloc (.cells #[.int .i64 y] 3)) (hO.mod ((Mod.refl [] _).alloc _) (by simp)) (heap_new _ _) (by have := HN.out; omega) (by have := HN.out; omega)
    rw [HN.out] at hins ⊢
    have HINS := Lib.hid hins
    clear hO hM3 hg' hins
    go_wp2_with fail
    refine HINS.out.mono ?_
    rintro e w4 ⟨g4, c4, rfl, hg4, hgl4, hlc, hcm, hcell, hM4⟩
    have HR4 := Lib.hid ((HR3.out.same ((Mod.refl [] _).alloc _)).same hM4)
    have q1 : ∃ a c, w4.cell? ⟨r, 1, none⟩ = some (.slice a L.length c) ∧ w4.frozen? ⟨r, 1, none⟩ = false ∧ r < w4.heap.size := by
      obtain ⟨a, c, e1, e2, _, _, _, e6, _⟩ := HR4.out
      exact ⟨a, c, e1, e2, e6⟩
    obtain ⟨a5, c5, q1, q2, q3⟩ := q1
    have HL4 := Lib.hid ((HL3.out.mod ((Mod.refl [] _).alloc (.cells #[.int .i64 y] 3)) (by simp) (by simp)).mod hM4 (by simp) (by simp))
    have HM4 := Lib.hid ((HM3.out.alloc (.cells #[.int .i64 y] 3)).trans (hM4.mono (by simp)))
    have HPUT := Lib.hid (And.intro hg4 (And.intro hgl4 (And.intro hlc (And.intro hcm hcell))))
    obtain ⟨n4, hn4⟩ : ∃ n4, (insAt k y L).length = n4 := ⟨_, rfl⟩
    rw [hn4]
    have HN4 := Lib.hid hn4
    clear hg4 hgl4 hlc hcm hcell hM4 hn4
    go_wp2_with fail
    refine bodyPost_end (results_none rfl _ _ _) rfl ?_
    obtain ⟨hg4, hgl4, hlc, hcm, hcell⟩ := HPUT.out
    have hJL : joinL L y ls = insAt k y L := by unfold joinL; rw [if_neg HY.out, HK.out]
    have hJR : joinR L y ls = lotRest ls ((n : Int) + 1) := by unfold joinR; rw [if_neg HY.out, HN.out]
    have hgG : g4 ∉ G := fun h => by
      have h1 := HG.out g4 h
      have h2 := HM3.out.size
      simp at hg4
      omega
    have hgr : r ≠ g4 := fun e => hgG (by rw [← e]; exact HRG.out.1)
    unfold JoinPost1
    rw [hJL, hJR]
    refine ⟨rfl, ⟨some ⟨g4, 0, none⟩, c4, ?_, ?_, hlc, hcm, fun h => (by cases h), ?_, fun _ => ⟨g4, 0, rfl, hgG, ?_, fun j x hj => ?_⟩⟩, ?_, ?_, ((Kept.refl r 1 w).mod HM4.out hrl (by simpa using hrd)).set _⟩
    · rw [HN4.out]
      exact cell_set_same q1
    · exact (World.frozen?_setCell _ _ _ _).trans q2
    · simpa [World.setCell] using q3
    · simpa [World.setCell] using hgl4
    · rw [Nat.zero_add]
      exact (cell_set_far _ _ _ _ hgr).trans (hcell j x hj)
    · exact HL4.out.mod ((Mod.refl [r] w4).setCell (.inl (by simp)) _) (by simpa using Ne.symm hrd) (by simpa using Ne.symm hrg)
    · exact (HM4.out.mono (T := [d, r]) (fun q _ hq => by simp at hq; simp [hq])).setCell (.inl (by simp)) _

end Go.Proofs.YtaaaiggbnkeblaaGreatDoor
