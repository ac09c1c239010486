/-
  The walk of the law RoundFair.
-/
import Derived.Test.YtojjkbpocfomdaaRndB
import Derived.Test.YtojjkbpocfomdaaRndC
import Derived.Test.YtojjkbpocfomdaaRndF
import Derived.Test.YtojjkbpocfomdaaFrame
namespace Go.Proofs.Ytojjkbpocfomdaa
open Go.RowKit

theorem Try.zero_int (w : World) : (zeroValue 3).run Try.prog w = .ok (.int .i64 0) w := by kernel_rfl

theorem wf_nat (i : Nat) (h : i ≤ 192) : (Lit.int .i64 (i : Int)).wf = true := WalkArith.wf_i64 ⟨by omega, by omega⟩

theorem wrapi {a : Int} (h0 : -9223372036854775808 ≤ a) (h1 : a ≤ 9223372036854775807) : IntKind.i64.wrap a = a := by
  simp [IntKind.wrap, IntKind.bits, IntKind.signed]
  split <;> omega

structure FairRel (l : List Int) (n K r d g lb : Nat) (w0 : World) (i : Nat) (L ls : List Int) (f : Int → Option Int) (sz q p B : Nat) (wr : World) : Prop where
  le : i ≤ K
  fair : FairAt l n i L f sz q p B
  round : RoundAt [r, d, lb] wr r L
  lots : LotsAt wr d g ls
  map : OMap Try.prog 3 3 .i64 wr lb f sz
  mod : Mod [d, r, lb] w0 wr

set_option maxRecDepth 100000 in
set_option maxHeartbeats 16000000 in
theorem walk_RoundFair (w : World) (b : Int) (b0 : 0 ≤ b) (b1 : b ≤ 18446744073709551615) (a : Option Addr) (c : Nat) (xs : List Int) (rd : RdInts .u64 w a xs) (wf : ∀ x ∈ xs, (Lit.int .u64 x).wf = true) (_nc : a = none → c = 0) (m : Int) (m0 : 0 ≤ m) (m1 : m ≤ 255) :
    Calls Try.prog 3 #[.int .u64 b, .slice a xs.length c, .int .u8 m] w (TruePost w) := by
  have RD := Lib.hid rd
  have WF := Lib.hid wf
  have HB := Lib.hid (And.intro b0 b1)
  have hmm := @run_makeMap Try.prog
  clear rd wf _nc b0 b1
  go_enter Try.func3, Try.ntmps3
  go_wp2_with fail
  refine (list_any b HB.out.1 HB.out.2 _).mono ?_
  rintro e w1 ⟨v, rfl, hO, hM⟩
  obtain ⟨la, lc, rfl, hrd, _, _, _, hlg⟩ := hO.shape
  have HM1 := Lib.hid hM
  have HLG := Lib.hid (show ∀ ad, la = some ad → listTo b 64 ≠ [] → ad.block < w1.heap.size by
    intro ad h hne
    obtain ⟨ad', h', hlt, _⟩ := hrd hne
    rw [h] at h'
    injection h' with h'
    rw [h']
    exact hlt)
  obtain ⟨ll, hll⟩ : ∃ ll, listTo b 64 = ll := ⟨_, rfl⟩
  rw [hll] at hrd HLG ⊢
  obtain ⟨n, hn⟩ : ∃ n, ll.length = n := ⟨_, rfl⟩
  have hn64 : n ≤ 64 := by rw [← hn, ← hll]; exact listTo_len b 64
  have HLL := Lib.hid hll
  have HN := Lib.hid hn
  have HRD1 := Lib.hid hrd
  rw [hn]
  clear hO hM hrd hlg hll hn
  by_cases hn0 : n = 0
  · have hnz : ((n : Int) == 0) = true := by simp; omega
    clear hn0
    go_wp2_with fail
    refine (shown09 _).mono ?_
    rintro e w2 ⟨rfl, hM⟩
    have HM := Lib.hid (HM1.out.trans hM)
    clear hM
    go_wp2_with fail
    go_ret
    exact ⟨rfl, HM.out⟩
  have hnz : ((n : Int) == 0) = false := by simp; omega
  by_cases h1 : (500 : Int) < xs.length
  · go_wp2_with fail
    refine (shown09 _).mono ?_
    rintro e w2 ⟨rfl, hM⟩
    have HM := Lib.hid (HM1.out.trans hM)
    clear hM
    go_wp2_with fail
    go_ret
    exact ⟨rfl, HM.out⟩
  go_wp2_with fail
  refine (shown09 _).mono ?_
  rintro e w2 ⟨rfl, hM⟩
  have HM2 := Lib.hid (HM1.out.trans hM)
  have HS2 := Lib.hid hM.size
  have HRD2 := Lib.hid (HRD1.out.mod hM (by simp))
  clear hM
  go_wp2_with fail
  refine (new_any a c xs _ ((RD.out.mod HM2.out (by simp)).alloc _) (by omega) (fun x hx => wf_bounds_u64 (WF.out x hx))).mono ?_
  rintro e w3 ⟨d, g, rfl, hd, hg, hL, hM⟩
  obtain ⟨r, hr⟩ : ∃ r, w2.heap.size = r := ⟨_, rfl⟩
  have HL3 := Lib.hid hL
  have HR3 := Lib.hid (show RoundAt [r, d, w3.heap.size] w3 r [] by rw [← hr]; exact (RoundAt.empty _ w2 29).same hM)
  have HM3 := Lib.hid ((HM2.out.alloc _).trans hM)
  have HRD3 := Lib.hid ((HRD2.out.alloc _).mod hM (by simp))
  have HG := Lib.hid (show r < d ∧ r < g ∧ d < w3.heap.size ∧ g < w3.heap.size ∧ w.heap.size ≤ r ∧ w1.heap.size ≤ r by
    have h1 := hL.lt
    have h2 := HM2.out.size
    have h3 := HS2.out
    simp at hd hg
    omega)
  rw [hr]
  clear hd hg hL hM hr
  obtain ⟨kk, hkk⟩ : ∃ kk : Nat, m % 4 = kk := ⟨(m % 4).toNat, by omega⟩
  have hkt : m.tmod 4 = kk := by rw [Int.tmod_eq_emod_of_nonneg m0]; exact hkk
  obtain ⟨K, hK⟩ : ∃ K, kk * n = K := ⟨_, rfl⟩
  have hK192 : K ≤ 192 := by
    have h1 : kk ≤ 3 := by omega
    have := Nat.mul_le_mul h1 hn64
    omega
  have hmul : wrap64 ((kk : Int) * (n : Int)) = (K : Int) := by
    have e : ((kk : Int) * (n : Int)) = (K : Int) := by rw [← hK]; simp
    rw [e]
    exact wrap_small (by omega) (by omega)
  have HK := Lib.hid hK
  clear hK
  go_wp2_with fail
  clear hmm
  rw [hmul]
  have HND := Lib.hid (show ll.Nodup by rw [← HLL.out]; exact listTo_nodup b 64)
  have HWF := Lib.hid (show ∀ x ∈ ll, (Lit.int .i64 x).wf = true by
    intro x hx
    rw [← HLL.out, listTo_mem] at hx
    obtain ⟨j, h1, _, rfl⟩ := hx
    exact WalkArith.wf_i64 ⟨by omega, by omega⟩)
  have hne : ll ≠ [] := by intro h; have := HN.out; rw [h] at this; simp at this; omega
  have HNE := Lib.hid hne
  have HBL := Lib.hid (show ∀ ad, la = some ad → ad.block ∉ [d, r, w3.heap.size] by
    intro ad h
    have h1 := HLG.out ad h HNE.out
    have h2 := HG.out
    simp
    omega)
  clear hne hmul hkk hkt
  go_loopw [12] (fun v wr => ∃ (i : Nat) (L ls : List Int) (f : Int → Option Int) (sz q p B : Nat), v = .int .i64 i ∧ FairRel ll n K r d g w3.heap.size w3 i L ls f sz q p B wr) (fun v _ => K - (intOf v).toNat)
  case atStart =>
    refine ⟨0, [], xs, fun _ => none, 0, 0, 0, 0, rfl, Nat.zero_le _, ?_, ?_, ?_, ?_, ?_⟩
    · exact fair_start (Nat.pos_of_ne_zero hn0)
    · exact HR3.out.same ((Mod.refl [] _).alloc _)
    · exact HL3.out.mod ((Mod.refl [] _).alloc _) (by simp) (by simp)
    · exact OMap.made _ _ _ _ _
    · exact (Mod.refl _ _).alloc _
  case round =>
    obtain ⟨i, L, ls, f, sz, q, p, B, rfl, hrel⟩ := hrel
    have HR := Lib.hid hrel
    have hiK := hrel.le
    clear hrel
    by_cases hlt : (i : Int) < (K : Int)
    · have hGl : ∀ s ∈ [r, d, w3.heap.size], s < wr.heap.size := by
        have h2 := HR.out.lots.lt
        have h3 := HR.out.map.lt
        obtain ⟨_, _, _, _, _, _, _, h6, _⟩ := HR.out.round
        simp
        omega
      have hszb : sz ≤ 64 := by
        have h1 := HR.out.fair.lp
        have h2 := HR.out.fair.esz
        split at h2 <;> omega
      have HWI := Lib.hid (show (Lit.int .i64 (i : Int)).wf = true from wf_nat i (Nat.le_trans hiK hK192))
      have hnx := rnext_any [r, d, w3.heap.size] r d g la lc ll L ls wr HR.out.round HR.out.lots (HRD3.out.mod HR.out.mod HBL.out) HNE.out (by have := HN.out; omega) (by simp) hGl (by have := HG.out; omega) (by have := HG.out; omega)
      rw [HN.out] at hnx
      have hstep := fair_step (ls := ls) HND.out HN.out HR.out.fair
      have hwas := fair_was (ls := ls) HND.out HN.out HR.out.fair
      have hpick := (fair_pick (ls := ls) HND.out HN.out HR.out.fair).2.2.1 _ (List.mem_cons_self)
      obtain ⟨x, hx⟩ : ∃ x, (rNext L ll ls).1 = x := ⟨_, rfl⟩
      rw [hx] at hstep hwas hpick
      have HSTEP := Lib.hid hstep
      have HWAS := Lib.hid hwas
      have HWX := Lib.hid (HWF.out x hpick.1)
      have HX := Lib.hid hx
      have HNX := Lib.hid hnx
      clear hnx hGl hx hstep hpick hwas
      rcases HWAS.out with hnone | ⟨y, hsome, hy1, hi1, hyi, hyn⟩
      · have HF := Lib.hid (show (f x).getD 0 = 0 ∧ (f x).isSome = false by rw [hnone]; exact ⟨rfl, rfl⟩)
        clear hnone
        go_wp2_with fail
        refine HNX.out.mono ?_
        rintro e w4 ⟨rfl, hR4, hL4, hM4⟩
        rw [HX.out]
        have HR4 := Lib.hid hR4
        have HL4 := Lib.hid hL4
        have HM4 := Lib.hid (HR.out.mod.trans (hM4.mono (T := [d, r, w3.heap.size]) (fun k _ hk => by simp at hk; simp; omega)))
        have HMP4 := Lib.hid (HR.out.map.mod hM4 (by have := HG.out; simp; omega))
        clear hR4 hL4 hM4
        go_wp2_with (first | (at_lookup; with_reducible refine wpList_omap_ok (b := w3.heap.size) rfl (.tmp 61) (.tmp 62) 32 rfl Try.underlying3 Try.underlying32 Try.underlying3 Try.zero_int f sz rfl HMP4.out x 0 false rfl HWX.out HF.out.1 HF.out.2 ?_))
        go_quiet (fail)
        go_wp2_with (first | (at_mapUpdate; with_reducible refine wpList_omap_put (b := w3.heap.size) rfl (.tmp 89) (.tmp 90) (.tmp 91) 32 rfl Try.underlying3 Try.underlying32 Try.underlying3 f sz rfl (HMP4.out.mod ((Mod.refl [] _).drewN _) (by simp)) ?o1 x i rfl rfl HWX.out HWI.out ?o2))
        case o1 => unfold maxLen; omega
        case o2 =>
          intro w5 hmap hgr
          have HM5 := Lib.hid ((HM4.out.drewN _).grown hgr (.inl (by simp)))
          have HG5 := Lib.hid ((Mod.refl [w3.heap.size] (w4.drewN nq)).grown hgr (.inl (by simp)))
          have HMAP := Lib.hid hmap
          clear hmap hgr
          try go_frame
          try go_wp2_with fail
          go_roundw
          case rel =>
            obtain ⟨q', p', B', hf'⟩ := HSTEP.out
            refine ⟨i + 1, _, (rNext L ll ls).2.2, _, _, q', p', B', by go_num, by omega, hf', ?_, ?_, HMAP.out, HM5.out⟩
            · exact (HR4.out.same ((Mod.refl [] _).drewN _)).mod HG5.out (by have := HG.out; simp; omega) (by simp)
            · exact (HL4.out.mod ((Mod.refl [] _).drewN _) (by simp) (by simp)).mod HG5.out (by have := HG.out; simp; omega) (by have := HG.out; simp; omega)
          case measure => simp [intOf]; omega
      · have HF := Lib.hid (show (f x).getD 0 = (y : Int) ∧ (f x).isSome = true by rw [hsome]; exact ⟨rfl, rfl⟩)
        obtain ⟨q1, hq1⟩ : ∃ q1, y / n = q1 := ⟨_, rfl⟩
        have e1 : (y : Int) / (n : Int) = (q1 : Int) := by rw [← hq1]; simp
        have e2 : (i : Int) / (n : Int) = (q : Int) := by rw [← hi1]; simp
        have e3 : (y : Int).tdiv (n : Int) = (q1 : Int) := by rw [Int.tdiv_eq_ediv_of_nonneg (by omega)]; exact e1
        have e4 : (i : Int).tdiv (n : Int) = (q : Int) := by rw [Int.tdiv_eq_ediv_of_nonneg (by omega)]; exact e2
        have e5 : ((q1 : Int) == (q : Int)) = false := by simp; omega
        have e6 : wrap64 ((i : Int) - y) = (i : Int) - y := wrap_small (by omega) (by omega)
        have e7 : wrap64 ((i : Int) - y - 1) = (i : Int) - y - 1 := wrap_small (by omega) (by omega)
        have e8 : wrap64 (2 * (n : Int)) = 2 * (n : Int) := wrap_small (by omega) (by omega)
        have e9 : wrap64 (2 * (n : Int) - 2) = 2 * (n : Int) - 2 := wrap_small (by omega) (by omega)
        have hq192 : q ≤ 192 := by rw [← hi1]; exact Nat.le_trans (Nat.div_le_self i n) (by omega)
        have hq1b : q1 ≤ 192 := by omega
        have f1 : IntKind.i64.wrap (q1 : Int) = (q1 : Int) := wrapi (by omega) (by omega)
        have f2 : IntKind.i64.wrap (q : Int) = (q : Int) := wrapi (by omega) (by omega)
        have f3 : IntKind.i64.wrap ((i : Int) - y) = (i : Int) - y := wrapi (by omega) (by omega)
        have f4 : IntKind.i64.wrap ((i : Int) - y - 1) = (i : Int) - y - 1 := wrapi (by omega) (by omega)
        have f5 : IntKind.i64.wrap (2 * (n : Int)) = 2 * (n : Int) := wrapi (by omega) (by omega)
        have f6 : IntKind.i64.wrap (2 * (n : Int) - 2) = 2 * (n : Int) - 2 := wrapi (by omega) (by omega)
        have e10 : decide (2 * (n : Int) - 2 < (i : Int) - y - 1) = false := by simp; omega
        clear hsome hq1 hi1 hy1
        go_wp2_with fail
        refine HNX.out.mono ?_
        rintro e w4 ⟨rfl, hR4, hL4, hM4⟩
        rw [HX.out]
        have HR4 := Lib.hid hR4
        have HL4 := Lib.hid hL4
        have HM4 := Lib.hid (HR.out.mod.trans (hM4.mono (T := [d, r, w3.heap.size]) (fun k _ hk => by simp at hk; simp; omega)))
        have HMP4 := Lib.hid (HR.out.map.mod hM4 (by have := HG.out; simp; omega))
        clear hR4 hL4 hM4
        go_wp2_with (first | (at_lookup; with_reducible refine wpList_omap_ok (b := w3.heap.size) rfl (.tmp 61) (.tmp 62) 32 rfl Try.underlying3 Try.underlying32 Try.underlying3 Try.zero_int f sz rfl HMP4.out x y true rfl HWX.out HF.out.1 HF.out.2 ?_))
        go_quiet (fail)
        go_wp2_with (first | (at_mapUpdate; with_reducible refine wpList_omap_put (b := w3.heap.size) rfl (.tmp 89) (.tmp 90) (.tmp 91) 32 rfl Try.underlying3 Try.underlying32 Try.underlying3 f sz rfl (HMP4.out.mod ((Mod.refl [] _).drewN _) (by simp)) ?o1 x i rfl rfl HWX.out HWI.out ?o2))
        case o1 => unfold maxLen; omega
        case o2 =>
          intro w5 hmap hgr
          have HM5 := Lib.hid ((HM4.out.drewN _).grown hgr (.inl (by simp)))
          have HG5 := Lib.hid ((Mod.refl [w3.heap.size] (w4.drewN nq)).grown hgr (.inl (by simp)))
          have HMAP := Lib.hid hmap
          clear hmap hgr
          try go_frame
          try go_wp2_with fail
          go_roundw
          case rel =>
            obtain ⟨q', p', B', hf'⟩ := HSTEP.out
            refine ⟨i + 1, _, (rNext L ll ls).2.2, _, _, q', p', B', by go_num, by omega, hf', ?_, ?_, HMAP.out, HM5.out⟩
            · exact (HR4.out.same ((Mod.refl [] _).drewN _)).mod HG5.out (by have := HG.out; simp; omega) (by simp)
            · exact (HL4.out.mod ((Mod.refl [] _).drewN _) (by simp) (by simp)).mod HG5.out (by have := HG.out; simp; omega) (by have := HG.out; simp; omega)
          case measure => simp [intOf]; omega
    · obtain rfl : i = K := by omega
      have hend := fair_end HR.out.fair HK.out.symm
      have HEND := Lib.hid hend
      clear hend
      obtain ⟨wB, rfl⟩ : ∃ wB, wB = wr := ⟨_, rfl⟩
      have HRDB := Lib.hid (HRD3.out.mod HR.out.mod HBL.out)
      have HMPB := Lib.hid HR.out.map
      have HMF := Lib.hid (show Mod [] w wB from HM3.out.step HR.out.mod (by have := HG.out; have := HM3.out.size; have := HM2.out.size; simp; omega))
      by_cases hK0 : (0 : Int) < (i : Int)
      · have hdk : (!decide (0 < i)) = false := by simp; omega
        have hdn : 0 < i := by omega
        have HMPn := Lib.hid (show OMap Try.prog 3 3 .i64 wB w3.heap.size f n by
          rw [← HEND.out.2 (by omega)]
          exact HR.out.map)
        go_wp2_with fail
        go_loopw [17] (fun v wr => ∃ j : Nat, v = .int .i64 j ∧ j ≤ n ∧ wr = wB) (fun v _ => n - (intOf v).toNat)
        case atStart => exact ⟨0, rfl, Nat.zero_le _, rfl⟩
        case round =>
          obtain ⟨j, rfl, hj, rfl⟩ := hrel
          by_cases hjn : (j : Int) < (n : Int)
          · obtain ⟨x, hx⟩ : ∃ x, ll[j]? = some x := ⟨_, List.getElem?_eq_getElem (by have := HN.out; omega)⟩
            obtain ⟨ad, rfl, _, hcx⟩ := HRDB.out HNE.out
            have cx := hcx j x hx
            have hxm := List.mem_of_getElem? hx
            have HWX := Lib.hid (HWF.out x hxm)
            have HF := Lib.hid (show (f x).isSome = true by rw [HEND.out.1 x hxm]; simp; omega)
            obtain ⟨cc, hcc⟩ : ∃ cc, (f x).getD 0 = cc := ⟨_, rfl⟩
            have HCC := Lib.hid hcc
            clear hcx hx hxm hcc
            go_wp2_with (first | (at_lookup; with_reducible refine wpList_omap_ok (b := w3.heap.size) rfl (.tmp 99) (.tmp 103) 32 rfl Try.underlying3 Try.underlying32 Try.underlying3 Try.zero_int f sz rfl HMPB.out x cc true rfl HWX.out HCC.out HF.out ?_))
            go_roundw
            case rel => exact ⟨j + 1, by go_num, by omega, by trivial⟩
            case measure => simp [intOf]; omega
          · obtain rfl : j = n := by omega
            go_wp2_with (first | (at_len; with_reducible refine wpList_omap_len (b := w3.heap.size) rfl (.tmp 111) 32 rfl Try.underlying32 f j rfl HMPn.out ?_))
            go_ret
            exact ⟨by simp, HMF.out⟩
      · have hdk : (false != decide ((0 : Int) < (i : Int))) = false := by simp; omega
        have hi0 : ((i : Int) == 0) = true := by simp; omega
        go_wp2_with fail
        go_loopw [17] (fun v wr => ∃ j : Nat, v = .int .i64 j ∧ j ≤ n ∧ wr = wB) (fun v _ => n - (intOf v).toNat)
        case atStart => exact ⟨0, rfl, Nat.zero_le _, rfl⟩
        case round =>
          obtain ⟨j, rfl, hj, rfl⟩ := hrel
          by_cases hjn : (j : Int) < (n : Int)
          · obtain ⟨x, hx⟩ : ∃ x, ll[j]? = some x := ⟨_, List.getElem?_eq_getElem (by have := HN.out; omega)⟩
            obtain ⟨ad, rfl, _, hcx⟩ := HRDB.out HNE.out
            have cx := hcx j x hx
            have hxm := List.mem_of_getElem? hx
            have HWX := Lib.hid (HWF.out x hxm)
            have HF := Lib.hid (show (f x).isSome = false by rw [HEND.out.1 x hxm]; simp; omega)
            obtain ⟨cc, hcc⟩ : ∃ cc, (f x).getD 0 = cc := ⟨_, rfl⟩
            have HCC := Lib.hid hcc
            clear hcx hx hxm hcc
            go_wp2_with (first | (at_lookup; with_reducible refine wpList_omap_ok (b := w3.heap.size) rfl (.tmp 99) (.tmp 103) 32 rfl Try.underlying3 Try.underlying32 Try.underlying3 Try.zero_int f sz rfl HMPB.out x cc false rfl HWX.out HCC.out HF.out ?_))
            go_roundw
            case rel => exact ⟨j + 1, by go_num, by omega, by trivial⟩
            case measure => simp [intOf]; omega
          · obtain rfl : j = n := by omega
            rcases Bool.eq_false_or_eq_true ((sz : Int) == (j : Int)) with hq | hq
            all_goals
              go_wp2_with (first | (at_len; with_reducible refine wpList_omap_len (b := w3.heap.size) rfl (.tmp 111) 32 rfl Try.underlying32 f sz rfl HMPB.out ?_))
              go_ret
              exact ⟨by simp, HMF.out⟩

end Go.Proofs.Ytojjkbpocfomdaa
