/-
  The walk of lot.Shuffle.
-/
import Derived.Test.YtnapboojfhojjaaLotA
namespace Go.Proofs.Ytnapboojfhojjaa
open Go.RowKit

def swapAt (l : List Int) (i k : Nat) : List Int := (l.set i (l.getD k 0)).set k (l.getD i 0)

def shufLoop : Nat → List Int → List Int → List Int × List Int
  | 0, out, ls => (out, ls)
  | i + 1, out, ls => shufLoop i (swapAt out (i + 1) (lotBelow ls (i + 2)).toNat) (lotRest ls (i + 2))

/-- A row of numbers of the call's own, whole. -/
def OwnInts (w : World) (g : Nat) (xs : List Int) : Prop := w.heap[g]? = some (.cells (xs.map (Value.int .i64)).toArray 3 (0, 0))

theorem lotBelow_range (xs : List Int) (n : Int) : 0 ≤ lotBelow xs n ∧ (1 ≤ n → lotBelow xs n < n) := by
  unfold lotBelow
  split
  · omega
  · exact ⟨Int.emod_nonneg _ (by omega), fun _ => Int.emod_lt_of_pos _ (by omega)⟩

theorem below_is (d g : Nat) (xs : List Int) (m n : Int) (k : Nat) (w : World) (h : LotsAt w d g xs) (hn2 : n ≤ 9223372036854775807) (hm : m = n) (hk : lotBelow xs n = k) :
    Calls Try.prog 25 #[.pointer (some ⟨d, 0, none⟩), .int .i64 m] w fun e w' => e = .returned (.int .i64 (k : Int)) ∧ LotsAt w' d g (lotRest xs n) ∧ Mod [d] w w' := by
  subst hm
  rw [← hk]
  exact below_any d g xs m w h hn2

theorem OwnInts.mod {w w' : World} {g : Nat} {xs : List Int} {S : List Nat} (h : OwnInts w g xs) (hm : Mod S w w') (hs : g ∉ S) : OwnInts w' g xs := by
  have hlt : g < w.heap.size := (Array.getElem?_eq_some_iff.1 h).1
  exact (hm.block g hlt hs).trans h

theorem OwnInts.cell {w : World} {g j : Nat} {xs : List Int} (h : OwnInts w g xs) (hj : j < xs.length) : w.cell? ⟨g, j, none⟩ = some (.int .i64 (xs.getD j 0)) := by
  unfold OwnInts at h
  simp [World.cell?, h, List.getD, hj]
theorem OwnInts.free {w : World} {g : Nat} {xs : List Int} (h : OwnInts w g xs) (j : Nat) : w.frozen? ⟨g, j, none⟩ = false := by
  unfold OwnInts at h
  simp [World.frozen?, h]

def ShufPost (w : World) (d g : Nat) (xs ls : List Int) (e : Ending) (w' : World) : Prop :=
  ∃ g', e = .returned (.slice (some ⟨g', 0, none⟩) xs.length xs.length) ∧ w.heap.size ≤ g' ∧ OwnInts w' g' (shufLoop (xs.length - 1) xs ls).1 ∧ LotsAt w' d g (shufLoop (xs.length - 1) xs ls).2 ∧ Mod [d] w w'

def ShufRel (d g n : Nat) (w : World) (R : List Int × List Int) (v : Value) (wr : World) : Prop :=
  ∃ (i : Nat) (out ls : List Int), v = .int .i64 i ∧ i < n ∧ out.length = n ∧ shufLoop i out ls = R ∧ OwnInts wr w.heap.size out ∧ LotsAt wr d g ls ∧ Mod [d] w wr

theorem shuf_end {d g : Nat} {xs ls out ls' : List Int} {w wr : World} (hR : shufLoop 0 out ls' = shufLoop (xs.length - 1) xs ls) (ho : OwnInts wr w.heap.size out) (hl : LotsAt wr d g ls') (hm : Mod [d] w wr) :
    ShufPost w d g xs ls (.returned (.slice (some ⟨w.heap.size, 0, none⟩) xs.length xs.length)) wr := by
  refine ⟨w.heap.size, rfl, Nat.le_refl _, ?_, ?_, hm⟩
  · rw [← hR]; exact ho
  · rw [← hR]; exact hl

theorem OwnInts.set {w : World} {g j : Nat} {xs : List Int} (h : OwnInts w g xs) (v : Int) : OwnInts (w.setCell ⟨g, j, none⟩ (.int .i64 v)) g (xs.set j v) := by
  unfold OwnInts at *
  simp only [World.setCell, Array.getElem?_modify, if_true, h]
  simp [List.map_set]
theorem OwnInts.swap {w : World} {g i k : Nat} {xs : List Int} {x y : Int} (h : OwnInts w g xs) (hi : i < xs.length) (hk : k < xs.length) (hx : xs.getD i 0 = x) (hy : xs.getD k 0 = y) :
    OwnInts ((w.setCell ⟨g, i, none⟩ (.int .i64 y)).setCell ⟨g, k, none⟩ (.int .i64 x)) g (swapAt xs i k) := by
  unfold swapAt
  rw [hx, hy]
  exact (h.set y).set x
theorem OwnInts.drew {w : World} {g : Nat} {xs : List Int} (h : OwnInts w g xs) : OwnInts w.drew g xs := h
theorem LotsAt.drew {w : World} {d g : Nat} {xs : List Int} (h : LotsAt w d g xs) : LotsAt w.drew d g xs := h
theorem LotsAt.set2 {w : World} {d g b i k : Nat} {u v : Value} {xs : List Int} (h : LotsAt w d g xs) (hd : d ≠ b) (hg : g ≠ b) : LotsAt ((w.setCell ⟨b, i, none⟩ u).setCell ⟨b, k, none⟩ v) d g xs :=
  h.same ((Below.heap_setCell _ _ _ _ hd).trans (Below.heap_setCell _ _ _ _ hd)) ((Below.heap_setCell _ _ _ _ hg).trans (Below.heap_setCell _ _ _ _ hg))

set_option maxHeartbeats 1000000 in
theorem shuffle_some (d g : Nat) (a : Option Addr) (c : Nat) (xs ls : List Int) (w : World) (hr : RdInts .i64 w a xs) (hlen : xs.length * 8 ≤ 140737488351232) (h0 : xs ≠ []) (hl : LotsAt w d g ls) :
    Calls Try.prog 22 #[.pointer (some ⟨d, 0, none⟩), .slice a xs.length c] w (ShufPost w d g xs ls) := by
  have hmk := run_make_row' (P := Try.prog) 26 3 (.int .i64 0) 8 Try.underlying26 Try.info_int rfl .i64 .i64 xs.length (by omega) (by omega)
  have HL := Lib.hid hlen
  have HR := Lib.hid hr
  have H0 := Lib.hid h0
  obtain ⟨hd, hg⟩ := hl.lt
  have HLo := Lib.hid hl
  have hn : xs.length < 4611686018427387904 := by omega
  have hp : 0 < xs.length := List.length_pos_iff.2 h0
  clear hlen hr h0 hl
  go_enter Try.func22, Try.ntmps22
  go_wp2_with (with_reducible refine wpList_copy_full rfl (.tmp 12) (.tmp 13) 26 26 rfl 3 Try.underlying26 Try.size_int .i64 xs w.heap.size xs.length c a rfl rfl (madeCells #[.int .i64 0] xs.length) 3 ?hg ?hcur ?hsrc ?next)
  case hg => exact heap_new _ _
  case hcur => simp [madeCells]
  case hsrc => exact HR.out.alloc _
  case next =>
    intro w1 hrow hgr hsz
    have HROW := Lib.hid hrow
    have HGR := Lib.hid hgr
    clear hrow hgr
    go_wp2_with fail
    clear hmk hsz
    go_loopw [7] (fun v wr => ShufRel d g xs.length w (shufLoop (xs.length - 1) xs ls) v wr) (fun v _ => (intOf v).toNat)
    case atStart => exact ⟨xs.length - 1, xs, ls, congrArg (Value.int .i64) (by omega), by omega, rfl, rfl, HROW.out, (HLo.out.same (by rw [HGR.out.block _ (by simp; omega) (by simp; omega), Below.heap_alloc _ _ _ hd]) (by rw [HGR.out.block _ (by simp; omega) (by simp; omega), Below.heap_alloc _ _ _ hg])), ((Mod.refl _ _).alloc _).grown HGR.out (.inr (Nat.le_refl _))⟩
    case round =>
      obtain ⟨i, out, ls', rfl, hi, hout, hR, hown, hlo, hmod⟩ := hrel
      have HREL := Lib.hid hR
      have HOWN := Lib.hid hown
      have HLO := Lib.hid hlo
      have HMOD := Lib.hid hmod
      have HOUT := Lib.hid hout
      clear hR hown hlo hmod hout HROW HGR
      cases i with
      | zero =>
        go_wp2_with fail
        go_ret
        exact shuf_end HREL.out HOWN.out HLO.out HMOD.out
      | succ i =>
        obtain ⟨k, hk⟩ : ∃ k : Nat, lotBelow ls' ((i : Int) + 2) = k := ⟨_, (Int.toNat_of_nonneg (lotBelow_range _ _).1).symm⟩
        have hki : k < i + 2 := by have := (lotBelow_range ls' ((i : Int) + 2)).2 (by omega); omega
        have HK := Lib.hid hk
        clear hk
        go_wp2_with (go_at_call 25; refine (below_is d g ls' _ ((i : Int) + 2) k _ HLO.out (by omega) (by omega) HK.out).mono ?_; rintro e w2 ⟨rfl, hlo2, hmod2⟩)
        have hown2 : OwnInts w2 w.heap.size out := HOWN.out.mod hmod2 (by simp; omega)
        obtain ⟨x, hx⟩ : ∃ x, out.getD (i + 1) 0 = x := ⟨_, rfl⟩
        obtain ⟨y, hy⟩ : ∃ y, out.getD k 0 = y := ⟨_, rfl⟩
        have ci := hown2.cell (j := i + 1) (by rw [HOUT.out]; omega)
        have ck := hown2.cell (j := k) (by rw [HOUT.out]; omega)
        rw [hx] at ci
        rw [hy] at ck
        have fi := hown2.free (i + 1)
        have fk := hown2.free k
        have HX := Lib.hid hx
        have HY := Lib.hid hy
        have HOWN2 := Lib.hid hown2
        have HLO2 := Lib.hid hlo2
        have HMOD2 := Lib.hid hmod2
        clear hx hy hown2 hlo2 hmod2
        obtain ⟨v', hv'⟩ := cell?_setCell_some (w := w2) (p := ⟨w.heap.size, i + 1, none⟩) (x := .int .i64 y) (q := ⟨w.heap.size, k, none⟩) (v := .int .i64 y) ck
        have hkl : k < xs.length := by omega
        go_region
        clear hv' ci ck fi fk
        go_wp2
        go_roundw
        case rel =>
          have hlt := HMOD2.out.size
          exact ⟨i, swapAt out (i + 1) k, lotRest ls' ((i : Int) + 2), by go_num, by omega, by simp [swapAt, HOUT.out], by rw [← HREL.out, shufLoop, HK.out]; rfl,
            (HOWN2.out.swap (by rw [HOUT.out]; omega) (by rw [HOUT.out]; omega) HX.out HY.out).drew, (HLO2.out.set2 (by omega) (by omega)).drew, ((HMOD.out.trans HMOD2.out).setCell (.inr (Nat.le_refl _)) _ |>.setCell (.inr (Nat.le_refl _)) _).drew⟩
        case measure => simp [intOf]

set_option maxHeartbeats 1000000 in
theorem shuffle_none (d g : Nat) (a : Option Addr) (c : Nat) (xs ls : List Int) (w : World) (hr : RdInts .i64 w a xs) (h0 : xs.length ≤ 0) (hl : LotsAt w d g ls) :
    Calls Try.prog 22 #[.pointer (some ⟨d, 0, none⟩), .slice a xs.length c] w (ShufPost w d g xs ls) := by
  have hmk := run_make_row' (P := Try.prog) 26 3 (.int .i64 0) 8 Try.underlying26 Try.info_int rfl .i64 .i64 xs.length (by omega) (by omega)
  have HR := Lib.hid hr
  obtain ⟨hd, hg⟩ := hl.lt
  have HLo := Lib.hid hl
  clear hr hl
  go_enter Try.func22, Try.ntmps22
  go_wp2_with (with_reducible refine wpList_copy_full rfl (.tmp 12) (.tmp 13) 26 26 rfl 3 Try.underlying26 Try.size_int .i64 xs w.heap.size xs.length c a rfl rfl (madeCells #[.int .i64 0] xs.length) 3 ?hg ?hcur ?hsrc ?next)
  case hg => exact heap_new _ _
  case hcur => simp [madeCells]
  case hsrc => exact HR.out.alloc _
  case next =>
    intro w1 hrow hgr hsz
    have HROW := Lib.hid hrow
    have HGR := Lib.hid hgr
    clear hrow hgr
    go_wp2_with fail
    clear hmk hsz
    refine wp_loop_rounds 1 ?_
    rw [rounds_succ]
    go_wp2
    go_ret
    exact shuf_end (by rw [show xs.length - 1 = 0 by omega]) HROW.out (HLo.out.same (by rw [HGR.out.block _ (by simp; omega) (by simp; omega), Below.heap_alloc _ _ _ hd]) (by rw [HGR.out.block _ (by simp; omega) (by simp; omega), Below.heap_alloc _ _ _ hg])) (((Mod.refl _ _).alloc _).grown HGR.out (.inr (Nat.le_refl _)))

theorem shuffle_any (d g : Nat) (a : Option Addr) (c : Nat) (xs ls : List Int) (w : World) (hr : RdInts .i64 w a xs) (hlen : xs.length * 8 ≤ 140737488351232) (hl : LotsAt w d g ls) :
    Calls Try.prog 22 #[.pointer (some ⟨d, 0, none⟩), .slice a xs.length c] w (ShufPost w d g xs ls) := by
  by_cases h0 : xs = []
  · exact shuffle_none d g a c xs ls w hr (by rw [h0]; exact Nat.le_refl _) hl
  · exact shuffle_some d g a c xs ls w hr hlen h0 hl

end Go.Proofs.Ytnapboojfhojjaa
