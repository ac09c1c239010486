/-
  The walk of the law LotKeeps.
-/
import Derived.Test.YtjlgocngbiapbaaLotSame
import Derived.Test.YtjlgocngbiapbaaLotPerm
import Derived.Test.YtjlgocngbiapbaaMaps
import Derived.Test.YtjlgocngbiapbaaOwned
namespace Go.Proofs.Ytjlgocngbiapbaa
open Go.RowKit

theorem Try.zero_int (w : World) : (zeroValue 3).run Try.prog w = .ok (.int .i64 0) w := by kernel_rfl

/-- A map that tells how often a number stands in a list, less how often in another. -/
def Counts (w : World) (b : Nat) (m : Nat) (l s : List Int) : Prop :=
  ∃ f sz, OMap Try.prog 3 3 .i64 w b f sz ∧ sz ≤ m ∧ ∀ x, (f x).getD 0 = (l.count x : Int) - s.count x

theorem sizeO_le (f : Int → Option Int) (k : Int) {sz m : Nat} (h : sz ≤ m) : sizeO f k sz ≤ m + 1 := by unfold sizeO; split <;> omega

theorem Counts.up {w' : World} {b m sz : Nat} {l s : List Int} {k c : Int} {f : Int → Option Int} (h : OMap Try.prog 3 3 .i64 w' b (updO f k (c + 1)) (sizeO f k sz)) (hs : sz ≤ m) (hf : ∀ x, (f x).getD 0 = (l.count x : Int) - s.count x) (hc : (f k).getD 0 = c) :
    Counts w' b (m + 1) (l ++ [k]) s := by
  refine ⟨_, _, h, sizeO_le _ _ hs, fun x => ?_⟩
  unfold updO
  by_cases hx : x = k
  · subst hx
    simp only [if_true, Option.getD_some, List.count_append, List.count_singleton_self]
    have := hf x
    omega
  · simp only [hx, if_false, List.count_append]
    rw [hf x, List.count_singleton, if_neg (by simpa using fun h => hx h.symm)]
    simp
theorem Counts.down {w' : World} {b m sz : Nat} {l s : List Int} {k c : Int} {f : Int → Option Int} (h : OMap Try.prog 3 3 .i64 w' b (updO f k (c - 1)) (sizeO f k sz)) (hs : sz ≤ m) (hf : ∀ x, (f x).getD 0 = (l.count x : Int) - s.count x) (hc : (f k).getD 0 = c) :
    Counts w' b (m + 1) l (s ++ [k]) := by
  refine ⟨_, _, h, sizeO_le _ _ hs, fun x => ?_⟩
  unfold updO
  by_cases hx : x = k
  · subst hx
    simp only [if_true, Option.getD_some, List.count_append, List.count_singleton_self]
    have := hf x
    omega
  · simp only [hx, if_false, List.count_append]
    rw [hf x, List.count_singleton, if_neg (by simpa using fun h => hx h.symm)]
    simp

theorem take_snoc (l : List Int) (i : Nat) (x : Int) (h : l[i]? = some x) : l.take (i + 1) = l.take i ++ [x] := by
  rw [List.take_add_one, h]
  rfl

def KeepsA (w6 : World) (l : List Int) (v : Value) (wr : World) : Prop :=
  ∃ i : Nat, v = .int .i64 i ∧ i ≤ l.length ∧ Counts wr w6.heap.size i (l.take i) [] ∧ Mod [] w6 wr
def KeepsB (w6 : World) (l s : List Int) (v : Value) (wr : World) : Prop :=
  ∃ i : Nat, v = .int .i64 i ∧ i ≤ l.length ∧ Counts wr w6.heap.size (l.length + i) l (s.take i) ∧ Mod [] w6 wr
def KeepsC (w6 : World) (l s : List Int) (v : Value) (wr : World) : Prop :=
  ∃ i : Nat, v = .int .i64 i ∧ i ≤ l.length ∧ Counts wr w6.heap.size (l.length + l.length) l s ∧ Mod [] w6 wr

set_option maxHeartbeats 4000000 in
theorem walk_LotKeeps (w : World) (a : Option Addr) (c : Nat) (ls : List Int) (hr : RdInts .u64 w a ls) (hwf : ∀ x ∈ ls, (Lit.int .u64 x).wf = true) (_nc : a = none → c = 0) (b : Option Addr) (c2 : Nat) (xs : List Int) (hr2 : RdInts .i64 w b xs)
    (hwf2 : ∀ x ∈ xs, (Lit.int .i64 x).wf = true) (nc2 : b = none → c2 = 0) (n : Int) (n0 : 0 ≤ n) (n1 : n ≤ 255) :
    Calls Try.prog 6 #[.slice a ls.length c, .slice b xs.length c2, .int .u8 n] w (TruePost w) := by
  have hx := wf_u64s hwf
  have HX := Lib.hid hx
  have HR := Lib.hid hr
  have HR2 := Lib.hid hr2
  have HW2 := Lib.hid hwf2
  have NC2 := Lib.hid nc2
  clear hx hwf hr hr2 hwf2 _nc nc2
  by_cases h300 : (300 : Int) < ls.length
  · go_enter Try.func6, Try.ntmps6
    go_wp2_with (go_at_call 20; refine (shown03 _).mono ?_; rintro e w1 ⟨rfl, hM⟩)
    go_ret
    exact ⟨rfl, hM⟩
  by_cases h100 : (100 : Int) < xs.length
  · go_enter Try.func6, Try.ntmps6
    go_wp2_with (go_at_call 20; refine (shown03 _).mono ?_; rintro e w1 ⟨rfl, hM⟩)
    go_ret
    exact ⟨rfl, hM⟩
  have hlen : ls.length ≤ 300 := by omega
  have hlen2 : xs.length ≤ 100 := by omega
  have hmm := @run_makeMap Try.prog
  go_enter Try.func6, Try.ntmps6
  go_wp2_with fail
  refine (shown03 _).mono ?_
  rintro e w1 ⟨rfl, hM⟩
  have HM1 := Lib.hid hM
  have HR1 := Lib.hid (HR.out.mod hM (by simp))
  have HS1 := Lib.hid (HR2.out.mod hM (by simp))
  clear hM
  go_wp2_with (at_builtin; with_reducible refine wpList_append_rd rfl (.tmp 28) (.tmp 29) 24 rfl w.heap.size 3 .i64 8 Try.underlying24 Try.info_int (.slice (some ⟨w1.heap.size, 0, none⟩) 0 0) [] rfl ?o1 b c2 xs rfl ?o2 NC2.out ?o3 ?o4 ?o5 ?o6)
  case o1 => exact Owned.empty .i64 (heap_new _ _) HM1.out.size
  case o2 => exact HS1.out.alloc _
  case o3 => unfold maxLen; simp; omega
  case o4 => simp; omega
  case o5 => have := HM1.out.size; simp; omega
  case o6 =>
    intro was w2 hown hgr hloc
    have HOWN := Lib.hid hown
    have hb : was.ownBlock = some w1.heap.size ∨ was.ownBlock = some (w1.heap.size + 1) := by simpa [Value.ownBlock] using hloc
    have HB := Lib.hid hb
    have HM2 := Lib.hid ((HM1.out.alloc _).grown hgr (.inr HM1.out.size))
    have HR2' := Lib.hid (HR.out.mod HM2.out (by simp))
    have HS2 := Lib.hid (HR2.out.mod HM2.out (by simp))
    clear hown hgr hloc hb
    obtain ⟨aw, cw, rfl, hwas, _⟩ := HOWN.out.shape
    have HWAS2 := Lib.hid hwas
    clear HOWN HB hwas
    go_wp2_with fail
    refine (new_any a c ls _ HR2'.out (by omega) HX.out).mono ?_
    rintro e w3 ⟨d1, g1, rfl, hd1, hg1, hL, hM⟩
    have HD1 := Lib.hid hd1
    have HM3 := Lib.hid hM
    have HS3 := Lib.hid (HS2.out.mod hM (by simp))
    have HL3 := Lib.hid hL
    clear hM hL hd1 hg1 HR2' HS2 HR1 HS1
    go_wp2_with fail
    refine (shuffle_any d1 g1 b c2 xs ls _ HS3.out (by omega) HL3.out).mono ?_
    rintro e w4 ⟨o1, rfl, ho1, hO, _, hM⟩
    have HO4 := Lib.hid (show OwnInts w4 o1 (shufOut xs ls) from hO)
    have HM4 := Lib.hid (HM3.out.step hM (by simpa using HD1.out))
    have HR4 := Lib.hid (HR.out.mod (HM2.out.trans HM4.out) (by simp))
    have HS4 := Lib.hid (HR2.out.mod (HM2.out.trans HM4.out) (by simp))
    clear hM hO ho1 HL3 HS3 HM3 HD1
    go_wp2_with fail
    refine (new_any a c ls _ HR4.out (by omega) HX.out).mono ?_
    rintro e w5 ⟨d2, g2, rfl, hd2, hg2, hL, hM⟩
    have HD2 := Lib.hid hd2
    have HM5 := Lib.hid hM
    have HS5 := Lib.hid (HS4.out.mod hM (by simp))
    have HL5 := Lib.hid hL
    obtain ⟨m, hm⟩ : ∃ m : Nat, (m : Int) = min (max n 0) xs.length := ⟨(min (max n 0) xs.length).toNat, by omega⟩
    have HMM := Lib.hid hm
    obtain ⟨ys, hys⟩ : ∃ ys, (shufOut xs ls).take m = ys := ⟨_, rfl⟩
    have HYS := Lib.hid hys
    have hyl : ys.length = m := by rw [← hys]; simp [shufOut_length]; omega
    have HYL := Lib.hid hyl
    clear hM hL hd2 hg2 HR4 HS4 hys hm hyl
    go_wp2_with fail
    refine (some_rd d2 g2 b c2 m n xs ls ys _ HS5.out (by omega) HL5.out HMM.out HYS.out).mono ?_
    rintro e w6 ⟨ay, cy, rfl, hry, hM⟩
    have HY6 := Lib.hid hry
    have HM6 := Lib.hid (HM5.out.step hM (by simpa using HD2.out))
    have HMW := Lib.hid ((HM2.out.trans HM4.out).trans HM6.out)
    clear hry hM HL5 HS5 HM5 HD2
    have HWM := Lib.hid HMW.out.size
    go_wp2_with fail
    clear hmm
    go_loopw [11] (fun v wr => KeepsA w6 xs v wr) (fun v _ => xs.length - (intOf v).toNat)
    case atStart => exact ⟨0, rfl, Nat.zero_le _, ⟨_, 0, OMap.made _ _ _ _ _, Nat.zero_le _, fun x => by simp⟩, (Mod.refl _ _).alloc _⟩
    case round =>
      obtain ⟨i, rfl, hi, ⟨f, sz, hmap, hsz, hf⟩, hM⟩ := hrel
      have HMAP := Lib.hid hmap
      have HF := Lib.hid hf
      have HM := Lib.hid hM
      have HSr := Lib.hid (HR2.out.mod (HMW.out.trans hM) (by simp))
      clear hmap hf hM
      by_cases hlt : (i : Int) < xs.length
      · have hlt' : i < xs.length := by omega
        obtain ⟨x, hx⟩ : ∃ x, xs[i]? = some x := ⟨_, List.getElem?_eq_getElem hlt'⟩
        obtain ⟨ad, rfl, _, hc⟩ := HSr.out (by intro h; rw [h] at hlt'; simp at hlt')
        have cx := hc i x hx
        have HX1 := Lib.hid hx
        have HWX := Lib.hid (HW2.out x (List.mem_of_getElem? hx))
        obtain ⟨cc, hcc⟩ : ∃ cc, (f x).getD 0 = cc := ⟨_, rfl⟩
        have hb0 : 0 ≤ cc ∧ cc ≤ 100 := by
          have h1 := HF.out x
          have h2 : (xs.take i).count x ≤ (xs.take i).length := List.count_le_length
          simp at h1 h2
          omega
        obtain ⟨hb0, hb1⟩ := hb0
        have HCC := Lib.hid hcc
        clear hc hx hcc
        go_wp2_with (first | (at_lookup; with_reducible refine wpList_omap_look (b := w6.heap.size) rfl (.tmp 48) (.tmp 52) 38 rfl Try.underlying3 Try.underlying38 Try.underlying3 Try.zero_int f sz rfl HMAP.out x cc rfl HWX.out HCC.out ?_) | (at_mapUpdate; with_reducible refine wpList_omap_put (b := w6.heap.size) rfl (.tmp 48) (.tmp 52) (.tmp 54) 38 rfl Try.underlying3 Try.underlying38 Try.underlying3 f sz rfl HMAP.out ?o1 x (cc + 1) rfl rfl HWX.out (WalkArith.wf_i64 (by omega)) ?o2))
        case o1 => unfold maxLen; omega
        case o2 =>
          intro w7 hmap hgr
          have HMAP7 := Lib.hid hmap
          have HM7 := Lib.hid (HM.out.grown hgr (.inr (Nat.le_refl _)))
          clear hmap hgr
          go_wp2_with fail
          go_roundw
          case rel => exact ⟨i + 1, by go_num, by omega, by rw [take_snoc xs i x HX1.out]; exact Counts.up HMAP7.out hsz HF.out HCC.out, HM7.out⟩
          case measure => simp [intOf]; omega
      · have hii : i = xs.length := by omega
        have HII := Lib.hid hii
        clear hii HSr
        go_wp2_with fail
        go_loopw [12] (fun v wr => KeepsB w6 xs (shufOut xs ls) v wr) (fun v _ => xs.length - (intOf v).toNat)
        case atStart => exact ⟨0, rfl, Nat.zero_le _, ⟨f, sz, HMAP.out, by omega, fun x => by have := HF.out x; rw [HII.out, List.take_length] at this; simpa using this⟩, HM.out⟩
        case round =>
          clear HMAP HF HM
          obtain ⟨j, rfl, hj, ⟨f, sz, hmap, hsz, hf⟩, hM⟩ := hrel
          have HMAP := Lib.hid hmap
          have HF := Lib.hid hf
          have HM := Lib.hid hM
          have HOr := Lib.hid (HO4.out.mod (HM6.out.trans hM) (by simp))
          clear hmap hf hM
          by_cases hlt : (j : Int) < xs.length
          · have hlt' : j < xs.length := by omega
            obtain ⟨x, hx⟩ : ∃ x, (shufOut xs ls)[j]? = some x := ⟨_, List.getElem?_eq_getElem (by rw [shufOut_length]; exact hlt')⟩
            have cx : wr.cell? ⟨o1, j, none⟩ = some (.int .i64 x) := by rw [HOr.out.cell (by rw [shufOut_length]; exact hlt')]; simp [List.getD, hx]
            have HX1 := Lib.hid hx
            have HWX := Lib.hid (HW2.out x (by
              have h1 := List.mem_of_getElem? hx
              have h2 := shufOut_count xs ls x
              exact List.count_pos_iff.1 (by rw [← h2]; exact List.count_pos_iff.2 h1)))
            obtain ⟨cc, hcc⟩ : ∃ cc, (f x).getD 0 = cc := ⟨_, rfl⟩
            have hb0 : -100 ≤ cc ∧ cc ≤ 100 := by
              have h1 := HF.out x
              have h2 : ((shufOut xs ls).take j).count x ≤ ((shufOut xs ls).take j).length := List.count_le_length
              have h3 : xs.count x ≤ xs.length := List.count_le_length
              simp [shufOut_length] at h1 h2
              omega
            obtain ⟨hb0, hb1⟩ := hb0
            have HCC := Lib.hid hcc
            clear hx hcc
            go_wp2_with (first | (at_lookup; with_reducible refine wpList_omap_look (b := w6.heap.size) rfl (.tmp 61) (.tmp 65) 38 rfl Try.underlying3 Try.underlying38 Try.underlying3 Try.zero_int f sz rfl HMAP.out x cc rfl HWX.out HCC.out ?_) | (at_mapUpdate; with_reducible refine wpList_omap_put (b := w6.heap.size) rfl (.tmp 61) (.tmp 65) (.tmp 67) 38 rfl Try.underlying3 Try.underlying38 Try.underlying3 f sz rfl HMAP.out ?p1 x (cc - 1) rfl rfl HWX.out (WalkArith.wf_i64 (by omega)) ?p2))
            case p1 => unfold maxLen; omega
            case p2 =>
              intro w7 hmap hgr
              have HMAP7 := Lib.hid hmap
              have HM7 := Lib.hid (HM.out.grown hgr (.inr (Nat.le_refl _)))
              clear hmap hgr
              go_wp2_with fail
              go_roundw
              case rel => exact ⟨j + 1, by go_num, by omega, by rw [take_snoc _ j x HX1.out]; exact Counts.down HMAP7.out hsz HF.out HCC.out, HM7.out⟩
              case measure => simp [intOf]; omega
          · have hjj : j = xs.length := by omega
            have HJJ := Lib.hid hjj
            clear hjj HOr
            go_wp2_with fail
            go_loopw [13] (fun v wr => KeepsC w6 xs (shufOut xs ls) v wr) (fun v _ => xs.length - (intOf v).toNat)
            case atStart => exact ⟨0, rfl, Nat.zero_le _, ⟨f, sz, HMAP.out, by omega, fun x => by have := HF.out x; rw [HJJ.out, List.take_of_length_le (by rw [shufOut_length]; exact Nat.le_refl _)] at this; exact this⟩, HM.out⟩
            case round =>
              clear HMAP HF HM
              obtain ⟨t, rfl, ht, ⟨f, sz, hmap, hsz, hf⟩, hM⟩ := hrel
              have HMAP := Lib.hid hmap
              have HF := Lib.hid hf
              have HM := Lib.hid hM
              have HSr := Lib.hid (HR2.out.mod (HMW.out.trans hM) (by simp))
              clear hmap hf hM
              by_cases hlt : (t : Int) < xs.length
              · have hlt' : t < xs.length := by omega
                obtain ⟨x, hx⟩ : ∃ x, xs[t]? = some x := ⟨_, List.getElem?_eq_getElem hlt'⟩
                obtain ⟨ad, rfl, _, hc⟩ := HSr.out (by intro h; rw [h] at hlt'; simp at hlt')
                have cx := hc t x hx
                have HWX := Lib.hid (HW2.out x (List.mem_of_getElem? hx))
                have HCC := Lib.hid (show (f x).getD 0 = 0 by rw [HF.out x, shufOut_count]; omega)
                clear hc hx
                go_wp2_with (at_lookup; with_reducible refine wpList_omap_look (b := w6.heap.size) rfl (.tmp 74) (.tmp 78) 38 rfl Try.underlying3 Try.underlying38 Try.underlying3 Try.zero_int f sz rfl HMAP.out x 0 rfl HWX.out HCC.out ?_)
                go_wp2_with fail
                go_roundw
                case rel => exact ⟨t + 1, by go_num, by omega, ⟨f, sz, HMAP.out, hsz, HF.out⟩, HM.out⟩
                case measure => simp [intOf]; omega
              · clear HSr HMAP HF
                have hyl := HYL.out
                have hmm := HMM.out
                have HFIN := Lib.hid (HMW.out.trans HM.out)
                by_cases hn : n ≤ xs.length
                · have f1 : ((ys.length : Int) == n) = true := by rw [beq_iff_eq]; omega
                  have hnm : n.toNat = m := by omega
                  have HNM := Lib.hid hnm
                  clear hyl hmm hnm
                  go_wp2_with fail
                  refine (same_any b aw c2 cw xs xs wr (HR2.out.mod HFIN.out (by simp)) (HWAS2.out.mod ((HM4.out.trans HM6.out).trans HM.out) (by simp)) (by omega)).mono ?_
                  rintro e w8 ⟨rfl, k1, rfl⟩
                  rw [show decide (xs = xs) = true from decide_eq_true rfl]
                  go_wp2_with fail
                  refine (same_is ay (some ⟨o1, 0, none⟩) cy xs.length _ _ ys ys _ rfl (by rw [HNM.out, HYL.out]) (HY6.out.mod (HM.out.drewN k1) (by simp)) (by rw [← HYS.out]; exact ((HO4.out.mod (HM6.out.trans HM.out) (by simp)).rd.take m).drewN k1) (by have := HMM.out; rw [HYL.out]; omega)).mono ?_
                  rintro e w9 ⟨rfl, k2, rfl⟩
                  rw [show decide (ys = ys) = true from decide_eq_true rfl]
                  go_wp2_with fail
                  go_ret
                  exact ⟨rfl, HFIN.out.drewN (k1 + k2)⟩
                · have f1 : ((ys.length : Int) == xs.length) = true := by rw [beq_iff_eq]; omega
                  have hnm : xs.length = m := by omega
                  have HNM := Lib.hid hnm
                  clear hyl hmm hnm
                  go_wp2_with fail
                  refine (same_any b aw c2 cw xs xs wr (HR2.out.mod HFIN.out (by simp)) (HWAS2.out.mod ((HM4.out.trans HM6.out).trans HM.out) (by simp)) (by omega)).mono ?_
                  rintro e w8 ⟨rfl, k1, rfl⟩
                  rw [show decide (xs = xs) = true from decide_eq_true rfl]
                  go_wp2_with fail
                  refine (same_is ay (some ⟨o1, 0, none⟩) cy xs.length _ _ ys ys _ rfl (by rw [HYL.out]; exact HNM.out) (HY6.out.mod (HM.out.drewN k1) (by simp)) (by rw [← HYS.out]; exact ((HO4.out.mod (HM6.out.trans HM.out) (by simp)).rd.take m).drewN k1) (by have := HMM.out; rw [HYL.out]; omega)).mono ?_
                  rintro e w9 ⟨rfl, k2, rfl⟩
                  rw [show decide (ys = ys) = true from decide_eq_true rfl]
                  go_wp2_with fail
                  go_ret
                  exact ⟨rfl, HFIN.out.drewN (k1 + k2)⟩

end Go.Proofs.Ytjlgocngbiapbaa
