/-
  The closure of the law OrderParts: a sender's next message, or the last one again.
-/
import Derived.Test.YtogaamnlokgjgaaOrdA
namespace Go.Proofs.Ytogaamnlokgjgaa
open Go.RowKit

def partsMap (h : Int → Option Int) (x k : Int) : Int → Option Int := if x < 200 then updO h k ((h k).getD 0 + 1) else h

def PartsPost (w : World) (mb sz : Nat) (h : Int → Option Int) (x k : Int) (e : Ending) (w' : World) : Prop :=
  e = .returned (.agg #[.int .i64 k, .int .u64 ((partsMap h x k k).getD 0), .string ⟨#[]⟩]) ∧ Mod [mb] w w' ∧ ∃ sz', sz' ≤ sz + 1 ∧ OMap Try.prog 3 26 .u64 w' mb (partsMap h x k) sz'

theorem results_cell1 {fn : Func} {p : Tmp} {ty : TypeId} (h : fn.results = #[.cell p ty]) (tmps : Array Value) (P : Program) (w : World) :
    (results fn tmps).run P w = ((asAddr (tmps.getD p undef)).run P w).andThen fun a w₁ => (loadVar ty a).run P w₁ := by
  simp only [results, h]
  simp [Sem.run_bind, Result.andThen]

set_option maxHeartbeats 4000000 in
theorem parts_next (p mb sz : Nat) (h : Int → Option Int) (x k : Int) (w : World) (hp : w.cell? ⟨p, 0, none⟩ = some (.map (some mb))) (hm : OMap Try.prog 3 26 .u64 w mb h sz) (hpm : p ≠ mb) (hs : sz ≤ 1000000)
    (x0 : 0 ≤ x) (x1 : x ≤ 255) (hk : x.tmod 5 = k) (h0 : 0 ≤ (h k).getD 0) (h1 : (h k).getD 0 ≤ 1000000) :
    Calls Try.prog 6 #[.int .u8 x, .pointer (some ⟨p, 0, none⟩)] w (PartsPost w mb sz h x k) := by
  have hkr : 0 ≤ k ∧ k < 5 := by rw [Int.tmod_eq_emod_of_nonneg x0] at hk; omega
  obtain ⟨hk0, hk5⟩ := hkr
  obtain ⟨c, hc⟩ : ∃ c, (h k).getD 0 = c := ⟨_, rfl⟩
  rw [hc] at h0 h1
  have hpl := block_lt_of_cell hp
  have hcw : (c + 1) % 18446744073709551616 = c + 1 := by omega
  have HC := Lib.hid hc
  have HM := Lib.hid hm
  have HWK := Lib.hid (WalkArith.wf_i64 (n := k) ⟨by omega, by omega⟩)
  have HWC := Lib.hid (WalkArith.wf_u64 (n := c + 1) ⟨by omega, by omega⟩)
  clear hc hm
  by_cases hx : x < 200
  · go_enter Try.func6, Try.ntmps6
    go_wp2_with (first | (at_lookup; with_reducible refine wpList_omap_look (b := mb) rfl (.tmp 10) (.tmp 11) 27 rfl Try.underlying3 Try.underlying27 Try.underlying26 Try.zero_u64 h sz rfl (HM.out.mod ((Mod.refl [] _).alloc _) (by simp)) k c rfl HWK.out HC.out ?_) | (at_mapUpdate; with_reducible refine wpList_omap_put (b := mb) rfl (.tmp 10) (.tmp 11) (.tmp 13) 27 rfl Try.underlying3 Try.underlying27 Try.underlying26 h sz rfl (HM.out.mod ((Mod.refl [] _).alloc _) (by simp)) ?o1 k (c + 1) rfl rfl HWK.out HWC.out ?o2))
    case o1 => unfold maxLen; omega
    case o2 =>
      intro w2 hmap hgr
      have hm2 : Mod [mb] w w2 := ((Mod.refl [mb] _).alloc _).grown hgr (.inl (by simp))
      have hp2 : w2.cell? ⟨p, 0, none⟩ = some (.map (some mb)) := (hm2.cell hpl (by simpa using hpm)).trans hp
      have hmbl := HM.out.lt
      have hblk : w2.heap[w.heap.size]? = some (.cells #[.int .i64 0, .int .u64 0, .string ⟨#[]⟩] 29) := (hgr.block _ (by simp) (by intro e; have := Option.some.inj e; omega)).trans (heap_new _ _)
      have z0 : w2.cell? ⟨w.heap.size, 0, none⟩ = some (.int .i64 0) := cell_in hblk rfl
      have z1 : w2.cell? ⟨w.heap.size, 1, none⟩ = some (.int .u64 0) := cell_in hblk rfl
      have z2 : w2.cell? ⟨w.heap.size, 2, none⟩ = some (.string ⟨#[]⟩) := cell_in hblk rfl
      have y0 : w2.frozen? ⟨w.heap.size, 0, none⟩ = false := free_in hblk
      have y1 : w2.frozen? ⟨w.heap.size, 1, none⟩ = false := free_in hblk
      have y2 : w2.frozen? ⟨w.heap.size, 2, none⟩ = false := free_in hblk
      have hk1 : (updO h k (c + 1) k).getD 0 = c + 1 := by simp [updO]
      have HK1 := Lib.hid hk1
      have HMAP := Lib.hid hmap
      have HM2 := Lib.hid hm2
      have HMB := Lib.hid hmbl
      have HHX := Lib.hid hx
      clear hmap hgr hm2 hblk hp hk1
      go_wp2_with (first | (at_lookup; with_reducible refine wpList_omap_look (b := mb) rfl (.tmp 15) (.tmp 16) 27 rfl Try.underlying3 Try.underlying27 Try.underlying26 Try.zero_u64 _ _ rfl HMAP.out k (c + 1) rfl HWK.out HK1.out ?_))
      (try simp only [Exit.inBlock, Exit.then])
      refine bodyPost_ret (v := .agg #[.int .i64 k, .int .u64 (c + 1), .string ⟨#[]⟩]) ?_ rfl ?_
      · rw [results_cell1 rfl]
        go_simp
      · have hpm : partsMap h x k = updO h k (c + 1) := by unfold partsMap; rw [if_pos HHX.out, HC.out]
        refine ⟨by rw [hpm, HK1.out], ?_, sizeO h k sz, by unfold sizeO; split <;> omega, ?_⟩
        · exact (((HM2.out.setCell (.inr (by simp)) _).setCell (.inr (by simp)) _).setCell (.inr (by simp)) _)
        · rw [hpm]
          exact HMAP.out.mod (S := [w.heap.size]) ((((Mod.refl _ _).setCell (.inl (by simp)) _).setCell (.inl (by simp)) _).setCell (.inl (by simp)) _) (by have := HMB.out; simp; omega)
  · have HHX := Lib.hid hx
    go_enter Try.func6, Try.ntmps6
    go_wp2_with (first | (at_lookup; with_reducible refine wpList_omap_look (b := mb) rfl (.tmp 15) (.tmp 16) 27 rfl Try.underlying3 Try.underlying27 Try.underlying26 Try.zero_u64 h sz rfl (HM.out.mod ((Mod.refl [] _).alloc _) (by simp)) k c rfl HWK.out HC.out ?_))
    (try simp only [Exit.inBlock, Exit.then])
    refine bodyPost_ret (v := .agg #[.int .i64 k, .int .u64 c, .string ⟨#[]⟩]) ?_ rfl ?_
    · rw [results_cell1 rfl]
      go_simp
    · have hpm : partsMap h x k = h := by unfold partsMap; rw [if_neg (by have := HHX.out; omega)]
      refine ⟨by rw [hpm, HC.out], ?_, sz, by omega, ?_⟩
      · exact ((Mod.refl _ _).alloc _)
      · rw [hpm]
        exact HM.out.mod ((Mod.refl [] _).alloc _) (by simp)

end Go.Proofs.Ytogaamnlokgjgaa
