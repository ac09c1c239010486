/-
  The walk of the law OrderOnce.
-/
import Derived.Test.YtfkkdehjfepciaaOrdA
import Derived.Test.YtfkkdehjfepciaaFrame
namespace Go.Proofs.Ytfkkdehjfepciaa
open Go.RowKit

theorem updO_getD (f : Int → Option Int) (k v x : Int) : (updO f k v x).getD 0 = if x = k then v else (f x).getD 0 := by
  unfold updO
  split <;> simp

structure OnceInv (w0 wr : World) (d m lb : Nat) (i : Nat) (nx : Int) (f g : Int → Option Int) (sf sg : Nat) : Prop where
  clerk : ClerkAt wr d m nx f sf
  sf : sf ≤ 64 + i
  map : OMap Try.prog 3 26 .u64 wr lb g sg
  sg : sg ≤ i
  n0 : 1 ≤ nx
  n1 : nx ≤ 1 + i
  low : ∀ x, 0 ≤ (f x).getD 0 ∧ (f x).getD 0 ≤ 11
  same : ∀ x, (g x).getD 0 = (f x).getD 0
  mod : Mod [] w0 wr

def OnceRel (w0 : World) (d m lb n : Nat) (v u : Value) (wr : World) : Prop :=
  ∃ (i : Nat) (nx : Int) (f g : Int → Option Int) (sf sg : Nat), u = .int .i64 i ∧ v = .int .u64 nx ∧ i ≤ n ∧ OnceInv w0 wr d m lb i nx f g sf sg

theorem num_none {w : World} {d m sz : Nat} {nx : Int} {f : Int → Option Int} {s n er : Int} (he : numErr nx f s n = er) (h0 : er ≠ 0) {e : Ending} {w' : World} (h : NumPost w d m sz nx f s n e w') :
    e = .returned (.tuple #[.int .u64 0, .int .i64 er]) ∧ Mod [d, m] w w' ∧ ∃ sz', sz' ≤ sz + 1 ∧ ClerkAt w' d m nx f sz' := by
  obtain ⟨h1, h2, sz', h3, h4⟩ := h
  rw [he, if_neg h0] at h1
  rw [he, if_neg h0, if_neg h0] at h4
  exact ⟨h1, h2, sz', h3, h4⟩
theorem num_some {w : World} {d m sz : Nat} {nx : Int} {f : Int → Option Int} {s n : Int} (he : numErr nx f s n = 0) {e : Ending} {w' : World} (h : NumPost w d m sz nx f s n e w') :
    e = .returned (.tuple #[.int .u64 nx, .int .i64 0]) ∧ Mod [d, m] w w' ∧ ∃ sz', sz' ≤ sz + 1 ∧ ClerkAt w' d m (nx + 1) (updO f s n) sz' := by
  obtain ⟨h1, h2, sz', h3, h4⟩ := h
  rw [he, if_pos rfl] at h1
  rw [he, if_pos rfl, if_pos rfl] at h4
  exact ⟨h1, h2, sz', h3, h4⟩

theorem once_none {w0 wr w3 : World} {d m lb i sf sf' sg : Nat} {nx : Int} {f g : Int → Option Int} {o : Obj} (h : OnceInv w0 wr d m lb i nx f g sf sg) (hM : Mod [d, m] (wr.alloc o) w3) (hs : sf' ≤ sf + 1) (hC : ClerkAt w3 d m nx f sf')
    (hl : lb ≠ d ∧ lb ≠ m) (hd : w0.heap.size ≤ d ∧ w0.heap.size ≤ m) : OnceInv w0 w3 d m lb (i + 1) nx f g sf' sg :=
  ⟨hC, by have := h.sf; omega, (h.map.mod ((Mod.refl [] _).alloc _) (by simp)).mod hM (by simp [hl.1, hl.2]), by have := h.sg; omega, h.n0, by have := h.n1; omega, h.low, h.same, (h.mod.alloc _).step hM (by simp; omega)⟩

theorem once_some {w0 wr w3 w4 : World} {d m lb i sf sf' sg : Nat} {nx k n : Int} {f g : Int → Option Int} {o : Obj} (h : OnceInv w0 wr d m lb i nx f g sf sg) (hM : Mod [d, m] (wr.alloc o) w3) (hs : sf' ≤ sf + 1) (hC : ClerkAt w3 d m (nx + 1) (updO f k n) sf')
    (hO : OMap Try.prog 3 26 .u64 w4 lb (updO g k n) (sizeO g k sg)) (hg : w3.grownBy w4 (some lb)) (hl : lb ≠ d ∧ lb ≠ m) (hd : w0.heap.size ≤ d ∧ w0.heap.size ≤ m) (hl0 : w0.heap.size ≤ lb) (hn : 0 ≤ n ∧ n ≤ 11) :
    OnceInv w0 w4 d m lb (i + 1) (nx + 1) (updO f k n) (updO g k n) sf' (sizeO g k sg) := by
  refine ⟨hC.mod ((Mod.refl [lb] _).grown hg (.inl (by simp))) (by simp; exact fun e => hl.1 e.symm) (by simp; exact fun e => hl.2 e.symm), by have := h.sf; omega, hO, ?_, by have := h.n0; omega, by have := h.n1; omega, fun x => ?_, fun x => ?_, ((h.mod.alloc _).step hM (by simp; omega)).grown hg (.inr hl0)⟩
  · have := h.sg
    unfold sizeO
    split <;> omega
  · rw [updO_getD]
    split
    · exact hn
    · exact h.low x
  · rw [updO_getD, updO_getD]
    split
    · rfl
    · exact h.same x

set_option maxRecDepth 100000 in
set_option maxHeartbeats 8000000 in
theorem walk_OrderOnce (w : World) (a : Option Addr) (c : Nat) (xs : List Int) (rd : RdInts .u8 w a xs) (wf : ∀ x ∈ xs, (Lit.int .u8 x).wf = true) (_nc : a = none → c = 0)
    (b : Option Addr) (c2 : Nat) (ys : List Int) (rd2 : RdInts .u8 w b ys) (wf2 : ∀ x ∈ ys, (Lit.int .u8 x).wf = true) (_nc2 : b = none → c2 = 0) :
    Calls Try.prog 3 #[.slice a xs.length c, .slice b ys.length c2] w (TruePost w) := by
  have RD := Lib.hid rd
  have RD2 := Lib.hid rd2
  have WF := Lib.hid wf
  have WF2 := Lib.hid wf2
  have hmm := @run_makeMap Try.prog
  clear rd rd2 wf wf2 _nc _nc2
  by_cases h1 : (200 : Int) < xs.length
  · go_enter Try.func3, Try.ntmps3
    go_wp2_with fail
    refine (shown18 _).mono ?_
    rintro e w1 ⟨rfl, hM⟩
    have HM := Lib.hid hM
    clear hM
    go_wp2_with fail
    go_ret
    exact ⟨rfl, HM.out⟩
  by_cases h2 : (200 : Int) < ys.length
  · go_enter Try.func3, Try.ntmps3
    go_wp2_with fail
    refine (shown18 _).mono ?_
    rintro e w1 ⟨rfl, hM⟩
    have HM := Lib.hid hM
    clear hM
    go_wp2_with fail
    go_ret
    exact ⟨rfl, HM.out⟩
  go_enter Try.func3, Try.ntmps3
  go_wp2_with fail
  refine (shown18 _).mono ?_
  rintro e w1 ⟨rfl, hM⟩
  have HM1 := Lib.hid hM
  clear hM
  go_wp2_with fail
  refine (newclerk_nil 1 _ (by decide) (by decide)).mono ?_
  rintro e w2 ⟨d, m, sz, rfl, hd, hm, hsz, hC, hM⟩
  have HC := Lib.hid (show ClerkAt w2 d m 1 (fun _ => none) sz from hC)
  have HM2 := Lib.hid (HM1.out.trans hM)
  have HD := Lib.hid (show w.heap.size ≤ d ∧ w.heap.size ≤ m by have := HM1.out.size; omega)
  clear hC hM hd hm
  have HLT := Lib.hid (show d < w2.heap.size ∧ m < w2.heap.size from ⟨block_lt_of_cell HC.out.1, HC.out.2.2.2.2.1.lt⟩)
  go_wp2_with fail
  clear hmm
  go_loopw [7, 8] (fun v u wr => OnceRel w d m w2.heap.size (min xs.length ys.length) v u wr) (fun _ u _ => min xs.length ys.length - (intOf u).toNat)
  case atStart => exact ⟨0, 1, fun _ => none, fun _ => none, sz, 0, rfl, rfl, Nat.zero_le _, ⟨HC.out.mod ((Mod.refl [] _).alloc _) (by simp) (by simp), by omega, OMap.made _ _ _ _ _, Nat.le_refl _, by omega, by omega, fun _ => by decide, fun _ => rfl, HM2.out.alloc _⟩⟩
  case round =>
    obtain ⟨i, nx, f, g, sf, sg, rfl, rfl, hi, hinv⟩ := hrel
    have HI := Lib.hid hinv
    obtain ⟨_, hsf, _, hsg, n0, n1, _, _, _⟩ := hinv
    by_cases hlx : (i : Int) < xs.length
    · by_cases hly : (i : Int) < ys.length
      · have hlx' : i < xs.length := by omega
        have hly' : i < ys.length := by omega
        obtain ⟨x, hx⟩ : ∃ x, xs[i]? = some x := ⟨_, List.getElem?_eq_getElem hlx'⟩
        obtain ⟨y, hy⟩ : ∃ y, ys[i]? = some y := ⟨_, List.getElem?_eq_getElem hly'⟩
        obtain ⟨ad, rfl, _, hcx⟩ := (RD.out.mod HI.out.mod (by simp)) (by intro h; rw [h] at hlx'; simp at hlx')
        obtain ⟨bd, rfl, _, hcy⟩ := (RD2.out.mod HI.out.mod (by simp)) (by intro h; rw [h] at hly'; simp at hly')
        have cx := hcx i x hx
        have cy := hcy i y hy
        obtain ⟨x0, x1⟩ := wf_bounds_u8 (WF.out x (List.mem_of_getElem? hx))
        obtain ⟨y0, y1⟩ := wf_bounds_u8 (WF2.out y (List.mem_of_getElem? hy))
        obtain ⟨k, hk⟩ : ∃ k, x.tmod 4 = k := ⟨_, rfl⟩
        obtain ⟨num, hnum⟩ : ∃ num, y % 12 = num := ⟨_, rfl⟩
        have hk4 : 0 ≤ k ∧ k < 4 := by rw [Int.tmod_eq_emod_of_nonneg x0] at hk; omega
        have hn12 : 0 ≤ num ∧ num ≤ 11 := by omega
        have hnumt : y.tmod 12 = num := by rw [Int.tmod_eq_emod_of_nonneg y0]; exact hnum
        obtain ⟨hk0, hk4⟩ := hk4
        obtain ⟨hnu0, hnu1⟩ := hn12
        have hnode : isNode k = true := by simp [isNode]; omega
        obtain ⟨cc, hcc⟩ : ∃ cc, (f k).getD 0 = cc := ⟨_, rfl⟩
        have hgc : (g k).getD 0 = cc := (HI.out.same k).trans hcc
        have hcb : 0 ≤ cc ∧ cc ≤ 11 := by rw [← hcc]; exact HI.out.low k
        obtain ⟨hc0, hc11⟩ := hcb
        have hwk : (Lit.int .i64 k).wf = true := WalkArith.wf_i64 ⟨by omega, by omega⟩
        have hwn : (Lit.int .u64 num).wf = true := WalkArith.wf_u64 ⟨by omega, by omega⟩
        have hcw : (cc + 1) % 18446744073709551616 = cc + 1 := by omega
        have hnw : (nx + 1) % 18446744073709551616 = nx + 1 := by omega
        have hlbn : w2.heap.size ≠ d ∧ w2.heap.size ≠ m := by have := HLT.out; omega
        have hlb0 : w.heap.size ≤ w2.heap.size := HM2.out.size
        have hcl := HI.out.clerk.mod ((Mod.refl [] wr).alloc (.cells #[.int .i64 k, .int .u64 num, .string ⟨#[]⟩] 29)) (by simp) (by simp)
        have hmp := HI.out.map.mod ((Mod.refl [] wr).alloc (.cells #[.int .i64 k, .int .u64 num, .string ⟨#[]⟩] 29)) (by simp)
        have hbn : wr.heap.size ≠ d ∧ wr.heap.size ≠ m := by
          have := HLT.out
          have := HI.out.clerk.1
          have h1 := block_lt_of_cell this
          have h2 := HI.out.clerk.2.2.2.2.1.lt
          simp at h1
          omega
        have hb1 : (wr.alloc (.cells #[.int .i64 k, .int .u64 num, .string ⟨#[]⟩] 29)).cell? ⟨wr.heap.size, 1, none⟩ = some (.int .u64 num) := cell_in (heap_new _ _) rfl
        have HLB := Lib.hid (And.intro hlbn hlb0)
        have HBN := Lib.hid hbn
        have HCL := Lib.hid hcl
        have HMP := Lib.hid hmp
        have HB1 := Lib.hid hb1
        have HCC := Lib.hid hcc
        have HGC := Lib.hid hgc
        have HWK := Lib.hid hwk
        have HWN := Lib.hid hwn
        have HND := Lib.hid hnode
        have call := fun er (he : numErr nx f k num = er) => number_any d m sf nx f k num ⟨#[]⟩ _ hcl (by omega) hwk (by omega) (by omega) (by rw [hcc]; exact hc0)
        have CALL := Lib.hid (number_any d m sf nx f k num ⟨#[]⟩ _ hcl (by omega) hwk (by omega) (by omega) (by rw [hcc]; exact hc0))
        clear call hcl hmp hb1 hcc hgc hwk hwn hnode hbn hlbn hlb0 hcx hcy hx hy
        by_cases hz : num = 0
        · have herr : numErr nx f k num = 1 := by unfold numErr; rw [if_pos (.inr hz)]
          have hzb : (num == 0) = true := by simpa using hz
          have HE := Lib.hid herr
          clear herr hz
          go_wp2_with fail
          refine CALL.out.mono ?_
          rintro e w3 hp
          obtain ⟨rfl, hM3, sf', hsf', hC3⟩ := num_none HE.out (by decide) hp
          have b1 : w3.cell? ⟨wr.heap.size, 1, none⟩ = some (.int .u64 num) := (hM3.cell (by simp) (by simp [HBN.out.1, HBN.out.2])).trans HB1.out
          have HMP3 := Lib.hid (HMP.out.mod hM3 (by simp [HLB.out.1.1, HLB.out.1.2]))
          have HN := Lib.hid (once_none HI.out hM3 hsf' hC3 HLB.out.1 HD.out)
          clear hp hM3 hsf' hC3 cx cy
          go_wp2_with (first | (at_lookup; with_reducible refine wpList_omap_look (b := w2.heap.size) rfl (.tmp 71) (.tmp 72) 27 rfl Try.underlying3 Try.underlying27 Try.underlying26 Try.zero_u64 g sg rfl HMP3.out k cc rfl HWK.out HGC.out ?_) | (at_lookup; with_reducible refine wpList_omap_look (b := w2.heap.size) rfl (.tmp 92) (.tmp 93) 27 rfl Try.underlying3 Try.underlying27 Try.underlying26 Try.zero_u64 g sg rfl HMP3.out k cc rfl HWK.out HGC.out ?_))
          go_roundw
          case rel => exact ⟨i + 1, nx, f, g, sf', sg, by go_num, rfl, by omega, HN.out⟩
          case measure => simp [intOf]; omega
        have hzb : (num == 0) = false := by simpa using hz
        by_cases hq : num = cc + 1
        · have herr : numErr nx f k num = 0 := by unfold numErr; rw [if_neg (by simp [HND.out, hz]), HCC.out, if_neg (by omega), if_neg (by omega), if_neg (by omega)]
          have hqb : (num == cc + 1) = true := by simpa using hq
          have hnn : (nx != nx) = false := by simp
          have HE := Lib.hid herr
          clear herr hz hq
          go_wp2_with fail
          refine CALL.out.mono ?_
          rintro e w3 hp
          obtain ⟨rfl, hM3, sf', hsf', hC3⟩ := num_some HE.out hp
          have b1 : w3.cell? ⟨wr.heap.size, 1, none⟩ = some (.int .u64 num) := (hM3.cell (by simp) (by simp [HBN.out.1, HBN.out.2])).trans HB1.out
          have HMP3 := Lib.hid (HMP.out.mod hM3 (by simp [HLB.out.1.1, HLB.out.1.2]))
          have HM3 := Lib.hid hM3
          have HC3 := Lib.hid hC3
          have HS3 := Lib.hid hsf'
          clear hp hM3 hsf' hC3 cx cy
          go_wp2_with (first | (at_lookup; with_reducible refine wpList_omap_look (b := w2.heap.size) rfl (.tmp 71) (.tmp 72) 27 rfl Try.underlying3 Try.underlying27 Try.underlying26 Try.zero_u64 g sg rfl HMP3.out k cc rfl HWK.out HGC.out ?_) | (at_lookup; with_reducible refine wpList_omap_look (b := w2.heap.size) rfl (.tmp 92) (.tmp 93) 27 rfl Try.underlying3 Try.underlying27 Try.underlying26 Try.zero_u64 g sg rfl HMP3.out k cc rfl HWK.out HGC.out ?_) | (at_mapUpdate; with_reducible refine wpList_omap_put (b := w2.heap.size) rfl (.tmp 83) (.tmp 84) (.tmp 86) 27 rfl Try.underlying3 Try.underlying27 Try.underlying26 g sg rfl HMP3.out ?o1 k num rfl rfl HWK.out HWN.out ?o2))
          case o1 => unfold maxLen; omega
          case o2 =>
            intro w4 hmap hgr
            have HN := Lib.hid (once_some HI.out HM3.out HS3.out HC3.out hmap hgr HLB.out.1 HD.out HLB.out.2 ⟨hnu0, hnu1⟩)
            clear hmap hgr
            go_wp2_with fail
            go_roundw
            case rel => exact ⟨i + 1, nx + 1, _, _, sf', _, by go_num, rfl, by omega, HN.out⟩
            case measure => simp [intOf]; omega
        have hqb : (num == cc + 1) = false := by simpa using hq
        by_cases hle : num ≤ cc
        · have herr : numErr nx f k num = 4 := by unfold numErr; rw [if_neg (by simp [HND.out, hz]), HCC.out, if_pos hle]
          have HE := Lib.hid herr
          clear herr hz hq
          go_wp2_with fail
          refine CALL.out.mono ?_
          rintro e w3 hp
          obtain ⟨rfl, hM3, sf', hsf', hC3⟩ := num_none HE.out (by decide) hp
          have b1 : w3.cell? ⟨wr.heap.size, 1, none⟩ = some (.int .u64 num) := (hM3.cell (by simp) (by simp [HBN.out.1, HBN.out.2])).trans HB1.out
          have HMP3 := Lib.hid (HMP.out.mod hM3 (by simp [HLB.out.1.1, HLB.out.1.2]))
          have HN := Lib.hid (once_none HI.out hM3 hsf' hC3 HLB.out.1 HD.out)
          clear hp hM3 hsf' hC3 cx cy
          go_wp2_with (first | (at_lookup; with_reducible refine wpList_omap_look (b := w2.heap.size) rfl (.tmp 71) (.tmp 72) 27 rfl Try.underlying3 Try.underlying27 Try.underlying26 Try.zero_u64 g sg rfl HMP3.out k cc rfl HWK.out HGC.out ?_) | (at_lookup; with_reducible refine wpList_omap_look (b := w2.heap.size) rfl (.tmp 92) (.tmp 93) 27 rfl Try.underlying3 Try.underlying27 Try.underlying26 Try.zero_u64 g sg rfl HMP3.out k cc rfl HWK.out HGC.out ?_))
          go_roundw
          case rel => exact ⟨i + 1, nx, f, g, sf', sg, by go_num, rfl, by omega, HN.out⟩
          case measure => simp [intOf]; omega
        · have herr : numErr nx f k num = 120 := by unfold numErr; rw [if_neg (by simp [HND.out, hz]), HCC.out, if_neg hle, if_pos hq]
          have HE := Lib.hid herr
          clear herr hz hq
          go_wp2_with fail
          refine CALL.out.mono ?_
          rintro e w3 hp
          obtain ⟨rfl, hM3, sf', hsf', hC3⟩ := num_none HE.out (by decide) hp
          have b1 : w3.cell? ⟨wr.heap.size, 1, none⟩ = some (.int .u64 num) := (hM3.cell (by simp) (by simp [HBN.out.1, HBN.out.2])).trans HB1.out
          have HMP3 := Lib.hid (HMP.out.mod hM3 (by simp [HLB.out.1.1, HLB.out.1.2]))
          have HN := Lib.hid (once_none HI.out hM3 hsf' hC3 HLB.out.1 HD.out)
          clear hp hM3 hsf' hC3 cx cy
          go_wp2_with (first | (at_lookup; with_reducible refine wpList_omap_look (b := w2.heap.size) rfl (.tmp 71) (.tmp 72) 27 rfl Try.underlying3 Try.underlying27 Try.underlying26 Try.zero_u64 g sg rfl HMP3.out k cc rfl HWK.out HGC.out ?_) | (at_lookup; with_reducible refine wpList_omap_look (b := w2.heap.size) rfl (.tmp 92) (.tmp 93) 27 rfl Try.underlying3 Try.underlying27 Try.underlying26 Try.zero_u64 g sg rfl HMP3.out k cc rfl HWK.out HGC.out ?_))
          go_roundw
          case rel => exact ⟨i + 1, nx, f, g, sf', sg, by go_num, rfl, by omega, HN.out⟩
          case measure => simp [intOf]; omega
      · go_wp2_with fail
        refine (cnext_any d m sf nx f _ HI.out.clerk).mono ?_
        rintro e w3 ⟨rfl, rfl⟩
        go_wp2_with fail
        go_ret
        exact ⟨by simp, HI.out.mod⟩
    · go_wp2_with fail
      refine (cnext_any d m sf nx f _ HI.out.clerk).mono ?_
      rintro e w3 ⟨rfl, rfl⟩
      go_wp2_with fail
      go_ret
      exact ⟨by simp, HI.out.mod⟩

end Go.Proofs.Ytfkkdehjfepciaa
