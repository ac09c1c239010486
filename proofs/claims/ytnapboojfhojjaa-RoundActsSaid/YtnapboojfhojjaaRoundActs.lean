/-
  The walk of the law RoundActs.
-/
import Derived.Test.YtnapboojfhojjaaRndX
import Derived.Test.YtnapboojfhojjaaRndB
import Derived.Test.YtnapboojfhojjaaSame
import Derived.Test.YtnapboojfhojjaaActR
import Derived.Deep.RegionHeld3
namespace Go.Proofs.Ytnapboojfhojjaa
open Go.RowKit

theorem rnext_len (L xs ls : List Int) : (rNext L xs ls).2.1.length ≤ max L.length xs.length := by
  unfold rNext
  split
  · simp only [List.length_tail, shufOut_length]
    omega
  · have := (List.dropWhile_sublist (l := L) (p := fun n => !decide (n ∈ xs))).length_le
    simp only [List.length_tail]
    unfold rDrop
    omega
theorem join_len (L ls : List Int) (y : Int) : (joinL L y ls).length ≤ L.length + 1 := by
  unfold joinL
  split
  · omega
  · unfold insAt
    simp
    omega

theorem acts_lt {w : World} {r s d e g B : Nat} {G : List Nat} {L1 L2 l1 l2 : List Int} (h1 : RoundAt G w r L1) (h2 : RoundAt G w s L2) (h3 : LotsAt w d g l1) (h4 : RefLots w e B l2) : ∀ x ∈ [r, s, d, e], x < w.heap.size := by
  have q1 : r < w.heap.size := by obtain ⟨_, _, _, _, _, _, _, h, _⟩ := h1; exact h
  have q2 : s < w.heap.size := by obtain ⟨_, _, _, _, _, _, _, h, _⟩ := h2; exact h
  have q3 := h3.lt
  have q4 := h4.lt
  simp
  omega

set_option maxHeartbeats 1000000 in
theorem rnext_none (r d c : Nat) (a : Option Addr) (w : World) :
    Calls Try.prog 7 #[.pointer (some ⟨r, 0, none⟩), .slice a 0 c, .pointer (some ⟨d, 0, none⟩)] w fun e w' => e = .returned (.tuple #[.int .i64 0, .bool false]) ∧ Mod [] w w' := by
  go_enter Try.func7, Try.ntmps7
  go_wp2_with fail
  go_ret2
  exact ⟨rfl, (Mod.refl _ _).alloc _⟩

set_option maxHeartbeats 1000000 in
theorem dnext_none (r d c : Nat) (a : Option Addr) (w : World) :
    Calls Try.prog 8 #[.pointer (some ⟨r, 0, none⟩), .slice a 0 c, .pointer (some ⟨d, 0, none⟩)] w fun e w' => e = .returned (.tuple #[.int .i64 0, .bool false]) ∧ w = w' := by
  go_enter Try.func8, Try.ntmps8
  go_wp2_with fail
  go_ret2
  exact ⟨rfl, rfl⟩

def RActsRel (w : World) (r s d g e n : Nat) (B : Nat) (v : Value) (wr : World) : Prop :=
  ∃ (i : Nat) (L ls : List Int), v = .int .i64 i ∧ i ≤ n ∧ L.length ≤ 64 + i ∧ RoundAt [r, s, d, e] wr r L ∧ RoundAt [r, s, d, e] wr s L ∧ LotsAt wr d g ls ∧ RefLots wr e B ls ∧ Mod [] w wr

set_option maxRecDepth 100000 in
set_option maxHeartbeats 8000000 in
theorem walk_RoundActs (w : World) (a : Option Addr) (c : Nat) (ls : List Int) (hr : RdInts .u64 w a ls) (hwf : ∀ x ∈ ls, (Lit.int .u64 x).wf = true) (_nc : a = none → c = 0) (b : Option Addr) (c2 : Nat) (acts : List ActV) (hat : ActsAt w b acts) :
    Calls Try.prog 3 #[.slice a ls.length c, .slice b acts.length c2] w (TruePost w) := by
  have HX := Lib.hid (fun x hx => wf_bounds_u64 (hwf x hx))
  have HR := Lib.hid hr
  have HAT := Lib.hid hat
  clear hwf hr hat _nc
  by_cases h500 : (500 : Int) < ls.length
  · go_enter Try.func3, Try.ntmps3
    go_wp2_with fail
    refine (shown09 _).mono ?_
    rintro e w1 ⟨rfl, hM⟩
    go_wp2_with fail
    go_ret
    exact ⟨rfl, hM⟩
  by_cases h60 : (60 : Int) < acts.length
  · go_enter Try.func3, Try.ntmps3
    go_wp2_with fail
    refine (shown09 _).mono ?_
    rintro e w1 ⟨rfl, hM⟩
    go_wp2_with fail
    go_ret
    exact ⟨rfl, hM⟩
  have hlen : ls.length ≤ 500 := by omega
  have hlen2 : acts.length ≤ 60 := by omega
  go_enter Try.func3, Try.ntmps3
  go_wp2_with fail
  refine (shown09 _).mono ?_
  rintro e w1 ⟨rfl, hM⟩
  have HM1 := Lib.hid hM
  clear hM
  go_wp2_with fail
  refine (new_any a c ls _ (((HR.out.mod HM1.out (by simp)).alloc _).alloc _) (by omega) HX.out).mono ?_
  rintro z w3 ⟨d, g, rfl, hd, hg, hL, hM⟩
  obtain ⟨r, hr⟩ : ∃ r, w1.heap.size = r := ⟨_, rfl⟩
  obtain ⟨s, hs⟩ : ∃ s, (w1.alloc (.cells #[.slice none 0 0] 28)).heap.size = s := ⟨_, rfl⟩
  obtain ⟨e, he⟩ : ∃ e, w3.heap.size = e := ⟨_, rfl⟩
  have hdg : d ≠ g := by obtain ⟨_, _, _, _, _, h, _⟩ := hL; exact h
  have hrs : s = r + 1 := by rw [← hs, ← hr]; simp
  have hds : s < d ∧ s < g := by rw [← hs]; simp at hd hg ⊢; omega
  have HBK := Lib.hid (show r < s ∧ s < d ∧ s < g ∧ d ≠ g ∧ d < e ∧ g < e ∧ w.heap.size ≤ r by have h1 := hL.lt; have h2 := HM1.out.size; omega)
  have hm0 : Mod [] w1 (w3.alloc (.cells #[.slice a ls.length c, .int .i64 0] 36)) := ((((Mod.refl [] w1).alloc _).alloc _).trans hM).alloc _
  have HL0 := Lib.hid (hL.mod ((Mod.refl [] w3).alloc (.cells #[.slice a ls.length c, .int .i64 0] 36)) (by simp) (by simp))
  have HRr0 := Lib.hid (show RoundAt [r, s, d, e] (w3.alloc (.cells #[.slice a ls.length c, .int .i64 0] 36)) r [] by
    rw [← hr]; exact (((RoundAt.empty _ w1 28).same ((Mod.refl [] _).alloc _)).same hM).same ((Mod.refl [] w3).alloc _))
  have HRs0 := Lib.hid (show RoundAt [r, s, d, e] (w3.alloc (.cells #[.slice a ls.length c, .int .i64 0] 36)) s [] by
    rw [← hs]; exact ((RoundAt.empty _ _ _).same hM).same ((Mod.refl [] w3).alloc _))
  have HE0 := Lib.hid (show RefLots (w3.alloc (.cells #[.slice a ls.length c, .int .i64 0] 36)) e w.heap.size ls by
    rw [← he]; exact RefLots.made HR.out HX.out (by omega) (HM1.out.trans ((((Mod.refl [] w1).alloc _).alloc _).trans hM)) _)
  have HM0 := Lib.hid (HM1.out.trans hm0)
  clear hd hg hL hM hm0 hdg hds
  go_wp2_with fail
  try rw [he]
  try rw [hs]
  try rw [hr]
  rw [← hrs]
  generalize (w3.alloc (.cells #[.slice a ls.length c, .int .i64 0] 36)) = wS at *
  clear hr hs he hrs
  -- BODY
  go_loopw [9] (fun v wr => RActsRel w r s d g e acts.length w.heap.size v wr) (fun v _ => acts.length - (intOf v).toNat)
  case atStart => exact ⟨0, [], ls, rfl, Nat.zero_le _, by simp, HRr0.out, HRs0.out, HL0.out, HE0.out, HM0.out⟩
  case round =>
    obtain ⟨i, L, lt, rfl, hi, hl, hRr, hRs, hL, hE, hM⟩ := hrel
    have HRr := Lib.hid hRr
    have HRs := Lib.hid hRs
    have HL := Lib.hid hL
    have HE := Lib.hid hE
    have HM := Lib.hid hM
    clear hRr hRs hL hE hM HRr0 HRs0 HL0 HE0 HM0
    by_cases hlt : (i : Int) < acts.length
    · have hlt' : i < acts.length := by omega
      have HIN := Lib.hid (show i + 1 ≤ acts.length by omega)
      obtain ⟨t, ht⟩ : ∃ t, acts[i]? = some t := ⟨_, List.getElem?_eq_getElem hlt'⟩
      obtain ⟨ab, ao, rfl, hab, hcells⟩ := HAT.out (by intro h; rw [h] at hlt'; simp at hlt')
      obtain ⟨f0, f1, f2, f3, fb⟩ := hcells i t ht
      obtain ⟨tk, tn, tno, tb⟩ := t
      simp only at f0 f1 f2 f3 fb
      have HF0 := Lib.hid f0
      have HF1 := Lib.hid f1
      have HF2 := Lib.hid f2
      have HB := Lib.hid fb
      have c3 := HM.out.cell_at f3 (by simp)
      have hi60 : i < 60 := by omega
      clear hcells ht f0 f1 f2 f3 fb hab
      go_wp2_with fail
      refine (list_any tb HB.out.1 HB.out.2 _).mono ?_
      rintro z w4 ⟨v, rfl, hO, hM4⟩
      obtain ⟨la, lc, rfl, hrd, hnc, _, _, hbk⟩ := hO.shape
      obtain ⟨xs, hxs⟩ : ∃ xs, listTo tb 64 = xs := ⟨_, rfl⟩
      have hx64 : xs.length ≤ 64 := by rw [← hxs]; exact listTo_len tb 64
      rw [hxs] at hrd ⊢
      have HRD := Lib.hid hrd
      have HNC := Lib.hid hnc
      have HRr4 := Lib.hid (HRr.out.same hM4)
      have HRs4 := Lib.hid (HRs.out.same hM4)
      have HL4 := Lib.hid (HL.out.mod hM4 (by simp) (by simp))
      have HE4 := Lib.hid (HE.out.mod hM4 (by simp) (by simp))
      have HM4 := Lib.hid (HM.out.trans hM4)
      have HLK := Lib.hid (show ∀ ad, la = some ad → ad.block ∉ [r, s, d, e] from fun ad had => by
        obtain ⟨gg, rfl, hgg⟩ := hbk ad had
        have hlt4 := acts_lt HRr.out HRs.out HL.out HE.out
        intro hmem
        have := hlt4 _ hmem
        simp at this
        omega)
      have c0 := HM4.out.cell_at HF0.out (by simp)
      have c1 := HM4.out.cell_at HF1.out (by simp)
      have c2' := HM4.out.cell_at HF2.out (by simp)
      have HC1 := Lib.hid c1
      have HC2 := Lib.hid c2'
      have HAB := Lib.hid (block_lt_of_cell c1)
      obtain ⟨n, hn⟩ : ∃ n, xs.length = n := ⟨_, rfl⟩
      have HN := Lib.hid hn
      rw [hn] at hx64 ⊢
      have HLT4 := Lib.hid (acts_lt HRr4.out HRs4.out HL4.out HE4.out)
      clear hO hM4 hrd hnc hbk hxs hn HRr HRs HL HE HM c3 c1 c2'
      by_cases k0 : tk = 0
      · have hk0 : (tk == 0) = true := by simpa using k0
        clear k0
        by_cases hn0 : n = 0
        · subst hn0
          go_wp2_with fail
          refine (rnext_none r d lc la _).mono ?_
          rintro z w5 ⟨rfl, hM⟩
          have HRr5 := Lib.hid (HRr4.out.same hM)
          have HRs5 := Lib.hid (HRs4.out.same hM)
          have HL5 := Lib.hid (HL4.out.mod hM (by simp) (by simp))
          have HE5 := Lib.hid (HE4.out.mod hM (by simp) (by simp))
          have HM5 := Lib.hid (HM4.out.trans hM)
          clear hM
          go_wp2_with fail
          refine (dnext_none s e lc la _).mono ?_
          rintro z w6 ⟨rfl, rfl⟩
          obtain ⟨m, hm⟩ : ∃ m, (lt : List Int).length = m := ⟨_, rfl⟩
          have HMM := Lib.hid hm
          clear hm
          go_wp2_with fail
          refine (left_is d g m lt _ HL5.out HMM.out).mono ?_
          rintro z w7 ⟨rfl, rfl⟩
          go_wp2_with fail
          refine (kleft_is e w.heap.size m lt _ HE5.out HMM.out).mono ?_
          rintro z w7 ⟨rfl, rfl⟩
          have hmmq : ((m : Int) != (m : Int)) = false := by simp
          go_wp2_with fail
          refine (rleft_any [r, s, d, e] r L _ (HRr5.out.same (Mod.refl [] _).drew) (by omega)).mono ?_
          rintro z w8 ⟨g8, rfl, hg8, hO8, hM8⟩
          have HW8 := Lib.hid hO8.rd
          have HM8 := Lib.hid ((Mod.refl [] w5).drew.trans hM8)
          obtain ⟨q8, hq8⟩ : ∃ q, (L : List Int).length = q := ⟨_, rfl⟩
          have HQ8 := Lib.hid hq8
          have HRs8 := Lib.hid (HRs5.out.same HM8.out)
          have HLL := Lib.hid (show (L : List Int).length ≤ 1000000 by omega)
          rw [hq8]
          clear hO8 hM8 hg8 hq8
          go_wp2_with fail
          refine (dleft_any [r, s, d, e] s L _ HRs8.out HLL.out).mono ?_
          rintro z w9 ⟨a9, c9, rfl, hr9, hM9⟩
          have HW9 := Lib.hid (HW8.out.mod hM9 (by simp))
          have HV9 := Lib.hid hr9
          have HM9 := Lib.hid (HM8.out.trans hM9)
          rw [HQ8.out]
          clear hr9 hM9
          go_wp2_with fail
          refine (same_is _ _ _ _ q8 q8 L L _ HQ8.out.symm HQ8.out.symm HW9.out HV9.out (by have := HLL.out; omega)).mono ?_
          rintro z w10 ⟨rfl, q, rfl⟩
          rw [decide_eq_true rfl]
          have HMZ := Lib.hid (HM9.out.drewN q)
          go_wp2_with fail
          go_roundw
          case rel => exact ⟨i + 1, L, lt, by go_num, HIN.out, by omega, HRr5.out.same HMZ.out, HRs5.out.same HMZ.out, HL5.out.mod HMZ.out (by simp) (by simp), HE5.out.mod HMZ.out (by simp) (by simp), HM5.out.trans HMZ.out⟩
          case measure => have := HIN.out; simp [intOf]; omega
        · have hnx := rnext_any [r, s, d, e] r d g la lc xs L lt w4 HRr4.out HL4.out HRD.out (by intro h; rw [h] at HN; exact hn0 HN.out.symm) (by have := HN.out; omega) (by simp) HLT4.out (by have := HBK.out; omega) (by have := HBK.out; omega)
          obtain ⟨⟨x, L', lt'⟩, hN⟩ : ∃ N, rNext L xs lt = N := ⟨_, rfl⟩
          have hll := rnext_len L xs lt
          rw [HN.out] at hnx hll
          rw [hN] at hnx hll
          have HNX := Lib.hid hnx
          have HRN := Lib.hid hN
          have hl' : L'.length ≤ 64 + i := by simp only at hll; omega
          clear hnx hN hll
          go_wp2_with fail
          refine HNX.out.mono ?_
          rintro z w5 ⟨rfl, hR, hL, hM⟩
          simp only at hR hL
          have HRr5 := Lib.hid hR
          have HL5 := Lib.hid hL
          have HRs5 := Lib.hid (HRs4.out.mod hM (by have := HBK.out; simp; omega) (by simp))
          have HE5 := Lib.hid (HE4.out.mod hM (by have := HBK.out; simp; omega) (by have := HBK.out; simp; omega))
          have HM5 := Lib.hid (HM4.out.step hM (by have := HBK.out; simp; omega))
          have hrd5 := HRD.out.mod hM (fun ad had => by have := HLK.out ad had; simp at this ⊢; omega)
          have hdx := dnext_any [r, s, d, e] s e w.heap.size la lc xs L lt w5 HRs5.out HE5.out hrd5 HNC.out (by intro h; rw [h] at HN; exact hn0 HN.out.symm) (by have := HN.out; omega) (by omega) (by simp) (acts_lt HRr5.out HRs5.out HL5.out HE5.out) (by have := HBK.out; omega) (by have := HBK.out; omega) (fun ad had => by have := HLK.out ad had; simp at this; omega)
          rw [HN.out, HRN.out] at hdx
          have HDX := Lib.hid hdx
          clear hR hL hM hrd5 hdx
          go_wp2_with fail
          refine HDX.out.mono ?_
          rintro z w6 ⟨rfl, hR, hE, hM⟩
          simp only at hR hE
          have HRs6 := Lib.hid hR
          have HE6 := Lib.hid hE
          have HRr6 := Lib.hid (HRr5.out.mod hM (by have := HBK.out; simp; omega) (by simp))
          have HL6 := Lib.hid (HL5.out.mod hM (by have := HBK.out; simp; omega) (by have := HBK.out; simp; omega))
          have HM6 := Lib.hid (HM5.out.step hM (by have := HBK.out; simp; omega))
          have hxx : (x == x) = true := by simp
          clear hR hE hM
          obtain ⟨m, hm⟩ : ∃ m, (lt' : List Int).length = m := ⟨_, rfl⟩
          have HMM := Lib.hid hm
          clear hm
          go_wp2_with fail
          refine (left_is d g m lt' _ HL6.out HMM.out).mono ?_
          rintro z w7 ⟨rfl, rfl⟩
          go_wp2_with fail
          refine (kleft_is e w.heap.size m lt' _ HE6.out HMM.out).mono ?_
          rintro z w7 ⟨rfl, rfl⟩
          have hmmq : ((m : Int) != (m : Int)) = false := by simp
          go_wp2_with fail
          refine (rleft_any [r, s, d, e] r L' _ (HRr6.out.same (Mod.refl [] _).drew) (by omega)).mono ?_
          rintro z w8 ⟨g8, rfl, hg8, hO8, hM8⟩
          have HW8 := Lib.hid hO8.rd
          have HM8 := Lib.hid ((Mod.refl [] w6).drew.trans hM8)
          obtain ⟨q8, hq8⟩ : ∃ q, (L' : List Int).length = q := ⟨_, rfl⟩
          have HQ8 := Lib.hid hq8
          have HRs8 := Lib.hid (HRs6.out.same HM8.out)
          have HLL := Lib.hid (show (L' : List Int).length ≤ 1000000 by omega)
          rw [hq8]
          clear hO8 hM8 hg8 hq8
          go_wp2_with fail
          refine (dleft_any [r, s, d, e] s L' _ HRs8.out HLL.out).mono ?_
          rintro z w9 ⟨a9, c9, rfl, hr9, hM9⟩
          have HW9 := Lib.hid (HW8.out.mod hM9 (by simp))
          have HV9 := Lib.hid hr9
          have HM9 := Lib.hid (HM8.out.trans hM9)
          rw [HQ8.out]
          clear hr9 hM9
          go_wp2_with fail
          refine (same_is _ _ _ _ q8 q8 L' L' _ HQ8.out.symm HQ8.out.symm HW9.out HV9.out (by have := HLL.out; omega)).mono ?_
          rintro z w10 ⟨rfl, q, rfl⟩
          rw [decide_eq_true rfl]
          have HMZ := Lib.hid (HM9.out.drewN q)
          go_wp2_with fail
          go_roundw
          case rel => exact ⟨i + 1, L', lt', by go_num, HIN.out, by omega, HRr6.out.same HMZ.out, HRs6.out.same HMZ.out, HL6.out.mod HMZ.out (by simp) (by simp), HE6.out.mod HMZ.out (by simp) (by simp), HM6.out.trans HMZ.out⟩
          case measure => have := HIN.out; simp [intOf]; omega
      have hk0 : (tk == 0) = false := by simpa using k0
      by_cases k1 : tk = 1
      · have hk1 : (tk == 1) = true := by simpa using k1
        clear k0 k1
        have c1 := HC1.out
        have hl' : (joinL L tn lt).length ≤ 64 + (i + 1) := by have := join_len L lt tn; omega
        obtain ⟨L', hL'⟩ : ∃ L', joinL L tn lt = L' := ⟨_, rfl⟩
        obtain ⟨lt', hlt2⟩ : ∃ lt', joinR L tn lt = lt' := ⟨_, rfl⟩
        rw [hL'] at hl'
        have HJ := Lib.hid (And.intro hL' hlt2)
        clear hL' hlt2
        go_wp2_with fail
        refine (join_any [r, s, d, e] r d g tn L lt _ HRr4.out HL4.out (by omega) (by simp) (by simp) HLT4.out (by have := HBK.out; omega) (by have := HBK.out; omega)).mono ?_
        rintro z w5 ⟨rfl, hR, hL, hM⟩
        rw [HJ.out.1] at hR
        rw [HJ.out.2] at hL
        have HRr5 := Lib.hid hR
        have HL5 := Lib.hid hL
        have HRs5 := Lib.hid (HRs4.out.mod hM (by have := HBK.out; simp; omega) (by simp))
        have HE5 := Lib.hid (HE4.out.mod hM (by have := HBK.out; simp; omega) (by have := HBK.out; simp; omega))
        have HM5 := Lib.hid (HM4.out.step hM (by have := HBK.out; simp; omega))
        have c1' := HM5.out.cell_at HF1.out (by simp)
        have HLT5 := Lib.hid (acts_lt HRr5.out HRs5.out HL5.out HE5.out)
        clear hR hL hM c1
        go_wp2_with fail
        refine (djoin_any [r, s, d, e] s e w.heap.size tn L lt _ HRs5.out HE5.out (by omega) (by simp) (by simp) HLT5.out (by have := HBK.out; omega) (by have := HBK.out; omega)).mono ?_
        rintro z w6 ⟨rfl, hR, hE, hM⟩
        rw [HJ.out.1] at hR
        rw [HJ.out.2] at hE
        have HRs6 := Lib.hid hR
        have HE6 := Lib.hid hE
        have HRr6 := Lib.hid (HRr5.out.mod hM (by have := HBK.out; simp; omega) (by simp))
        have HL6 := Lib.hid (HL5.out.mod hM (by have := HBK.out; simp; omega) (by have := HBK.out; simp; omega))
        have HM6 := Lib.hid (HM5.out.step hM (by have := HBK.out; simp; omega))
        clear hR hE hM c1'
        obtain ⟨m, hm⟩ : ∃ m, (lt' : List Int).length = m := ⟨_, rfl⟩
        have HMM := Lib.hid hm
        clear hm
        go_wp2_with fail
        refine (left_is d g m lt' _ HL6.out HMM.out).mono ?_
        rintro z w7 ⟨rfl, rfl⟩
        go_wp2_with fail
        refine (kleft_is e w.heap.size m lt' _ HE6.out HMM.out).mono ?_
        rintro z w7 ⟨rfl, rfl⟩
        have hmmq : ((m : Int) != (m : Int)) = false := by simp
        go_wp2_with fail
        refine (rleft_any [r, s, d, e] r L' _ (HRr6.out.same (Mod.refl [] _).drew) (by omega)).mono ?_
        rintro z w8 ⟨g8, rfl, hg8, hO8, hM8⟩
        have HW8 := Lib.hid hO8.rd
        have HM8 := Lib.hid ((Mod.refl [] w6).drew.trans hM8)
        obtain ⟨q8, hq8⟩ : ∃ q, (L' : List Int).length = q := ⟨_, rfl⟩
        have HQ8 := Lib.hid hq8
        have HRs8 := Lib.hid (HRs6.out.same HM8.out)
        have HLL := Lib.hid (show (L' : List Int).length ≤ 1000000 by omega)
        rw [hq8]
        clear hO8 hM8 hg8 hq8
        go_wp2_with fail
        refine (dleft_any [r, s, d, e] s L' _ HRs8.out HLL.out).mono ?_
        rintro z w9 ⟨a9, c9, rfl, hr9, hM9⟩
        have HW9 := Lib.hid (HW8.out.mod hM9 (by simp))
        have HV9 := Lib.hid hr9
        have HM9 := Lib.hid (HM8.out.trans hM9)
        rw [HQ8.out]
        clear hr9 hM9
        go_wp2_with fail
        refine (same_is _ _ _ _ q8 q8 L' L' _ HQ8.out.symm HQ8.out.symm HW9.out HV9.out (by have := HLL.out; omega)).mono ?_
        rintro z w10 ⟨rfl, q, rfl⟩
        rw [decide_eq_true rfl]
        have HMZ := Lib.hid (HM9.out.drewN q)
        go_wp2_with fail
        go_roundw
        case rel => exact ⟨i + 1, L', lt', by go_num, HIN.out, by omega, HRr6.out.same HMZ.out, HRs6.out.same HMZ.out, HL6.out.mod HMZ.out (by simp) (by simp), HE6.out.mod HMZ.out (by simp) (by simp), HM6.out.trans HMZ.out⟩
        case measure => have := HIN.out; simp [intOf]; omega
      have hk1 : (tk == 1) = false := by simpa using k1
      by_cases k2 : tk = 2
      · have hk2 : (tk == 2) = true := by simpa using k2
        clear k0 k1 k2
        obtain ⟨m3, hm3⟩ : ∃ m : Nat, (m : Int) = min (max tn 0) (without tno xs).length := ⟨(min (max tn 0) (without tno xs).length).toNat, by omega⟩
        obtain ⟨ys, hys⟩ : ∃ ys, (shufOut (without tno xs) lt).take m3 = ys := ⟨_, rfl⟩
        obtain ⟨lt', hlt2⟩ : ∃ lt', (if tn < 1 then lt else shufLots (without tno xs) lt) = lt' := ⟨_, rfl⟩
        have HM3' := Lib.hid hm3
        have HYS := Lib.hid hys
        have HLT2 := Lib.hid hlt2
        have HX64 := Lib.hid (show xs.length ≤ 64 by have := HN.out; omega)
        have hyl : ys.length ≤ 64 := by
          have h1 : (without tno xs).length ≤ xs.length := List.length_filter_le _ _
          have := HX64.out
          rw [← hys, List.length_take, shufOut_length]
          omega
        have HYL := Lib.hid hyl
        clear hm3 hys hlt2 hyl
        have cc1 := HC1.out
        have cc2 := HC2.out
        go_wp2_with fail
        go_region_held3 (fun w' => w'.cell? ⟨ab, ao + i * 4 + 2, none⟩ = some (.int .i64 tno) ∧ w'.cell? ⟨ab, ao + i * 4 + 1, none⟩ = some (.int .i64 tn)) (first | go_keep | exact ⟨HM5.out.cell_at HF2.out (by simp), HM5.out.cell_at HF1.out (by simp)⟩ | exact ⟨HM6.out.cell_at HF2.out (by simp), HM6.out.cell_at HF1.out (by simp)⟩ | exact ⟨HC2.out, HC1.out⟩) (first | (go_at_call 12; refine (helpers_is d g la lc m3 n tno tn xs lt lt' ys _ HN.out HLT2.out (HRD.out.drewN 1) HNC.out HX64.out HL4.out.drew HM3'.out HYS.out).mono ?_; rintro z w5 ⟨a5, c5, rfl, hO, hL, hM, hbk⟩; have HBK5 := Lib.hid (show ∀ ad, a5 = some ad → ad.block ≠ e from fun ad h => by have h1 := HLT4.out e (by simp); have h2 : w4.heap.size ≤ ad.block := hbk ad h; omega); have HL5 := Lib.hid hL; have HRr5 := Lib.hid ((HRr4.out.same (Mod.refl [] _).drew).mod hM (by have := HBK.out; simp; omega) (by simp)); have HRs5 := Lib.hid ((HRs4.out.same (Mod.refl [] _).drew).mod hM (by have := HBK.out; simp; omega) (by simp)); have HE5 := Lib.hid ((HE4.out.mod (Mod.refl [] _).drew (by simp) (by simp)).mod hM (by have := HBK.out; simp; omega) (by have := HBK.out; simp; omega)); have HM5 := Lib.hid (HM4.out.drew.step hM (by have := HBK.out; simp; omega)); have HO5 := Lib.hid hO; have HRD5 := Lib.hid ((HRD.out.drewN 1).mod hM (fun ad had => by have := HLK.out ad had; simp at this ⊢; omega)); clear hL hM hO hbk) | (go_at_call 13; refine (dhelpers_is e w.heap.size la lc m3 n tno tn xs lt lt' ys _ HN.out HLT2.out HRD5.out HX64.out HE5.out HM3'.out HYS.out).mono ?_; rintro z w6 ⟨a6, c6, rfl, hO, hE, hM⟩; have HE6 := Lib.hid hE; have HRr6 := Lib.hid (HRr5.out.mod hM (by have := HBK.out; simp; omega) (by simp)); have HRs6 := Lib.hid (HRs5.out.mod hM (by have := HBK.out; simp; omega) (by simp)); have HL6 := Lib.hid (HL5.out.mod hM (by have := HBK.out; simp; omega) (by have := HBK.out; simp; omega)); have HM6 := Lib.hid (HM5.out.step hM (by have := HBK.out; simp; omega)); have HO6 := Lib.hid (HO5.out.mod hM (fun ad h => by simpa using HBK5.out ad h)); have HP6 := Lib.hid hO; clear hE hM hO) | (go_at_call 11; refine (same_any a5 a6 c5 c6 ys ys _ HO6.out HP6.out (by have := HYL.out; omega)).mono ?_; rintro z w7 ⟨rfl, n7, rfl⟩; rw [show decide (ys = ys) = true from decide_eq_true rfl]; have HM67 := Lib.hid ((Mod.refl [] w6).drewN n7); have HL7 := Lib.hid (HL6.out.mod HM67.out (by simp) (by simp)); have HE7 := Lib.hid (HE6.out.mod HM67.out (by simp) (by simp)); have HRr7 := Lib.hid (HRr6.out.same HM67.out); have HRs7 := Lib.hid (HRs6.out.same HM67.out); have HM7 := Lib.hid (HM6.out.drewN n7)))
        generalize w6.drewN n7 = wA at HL7 HE7 HRr7 HRs7 HM7 ⊢
        obtain ⟨m, hm⟩ : ∃ m, (lt' : List Int).length = m := ⟨_, rfl⟩
        have HMM := Lib.hid hm
        clear hm
        go_wp2_with fail
        refine (left_is d g m lt' _ HL7.out HMM.out).mono ?_
        rintro z w7 ⟨rfl, rfl⟩
        go_wp2_with fail
        refine (kleft_is e w.heap.size m lt' _ HE7.out HMM.out).mono ?_
        rintro z w7 ⟨rfl, rfl⟩
        have hmmq : ((m : Int) != (m : Int)) = false := by simp
        go_wp2_with fail
        refine (rleft_any [r, s, d, e] r L _ (HRr7.out.same (Mod.refl [] _).drew) (by omega)).mono ?_
        rintro z w8 ⟨g8, rfl, hg8, hO8, hM8⟩
        have HW8 := Lib.hid hO8.rd
        have HM8 := Lib.hid ((Mod.refl [] wA).drew.trans hM8)
        obtain ⟨q8, hq8⟩ : ∃ q, (L : List Int).length = q := ⟨_, rfl⟩
        have HQ8 := Lib.hid hq8
        have HRs8 := Lib.hid (HRs7.out.same HM8.out)
        have HLL := Lib.hid (show (L : List Int).length ≤ 1000000 by omega)
        rw [hq8]
        clear hO8 hM8 hg8 hq8
        go_wp2_with fail
        refine (dleft_any [r, s, d, e] s L _ HRs8.out HLL.out).mono ?_
        rintro z w9 ⟨a9, c9, rfl, hr9, hM9⟩
        have HW9 := Lib.hid (HW8.out.mod hM9 (by simp))
        have HV9 := Lib.hid hr9
        have HM9 := Lib.hid (HM8.out.trans hM9)
        rw [HQ8.out]
        clear hr9 hM9
        go_wp2_with fail
        refine (same_is _ _ _ _ q8 q8 L L _ HQ8.out.symm HQ8.out.symm HW9.out HV9.out (by have := HLL.out; omega)).mono ?_
        rintro z w10 ⟨rfl, q, rfl⟩
        rw [decide_eq_true rfl]
        have HMZ := Lib.hid (HM9.out.drewN q)
        go_wp2_with fail
        go_roundw
        case rel => exact ⟨i + 1, L, lt', by go_num, HIN.out, by omega, HRr7.out.same HMZ.out, HRs7.out.same HMZ.out, HL7.out.mod HMZ.out (by simp) (by simp), HE7.out.mod HMZ.out (by simp) (by simp), HM7.out.trans HMZ.out⟩
        case measure => have := HIN.out; simp [intOf]; omega
      · have hk2 : (tk == 2) = false := by simpa using k2
        clear k0 k1 k2
        obtain ⟨m, hm⟩ : ∃ m, (lt : List Int).length = m := ⟨_, rfl⟩
        have HMM := Lib.hid hm
        clear hm
        go_wp2_with fail
        refine (left_is d g m lt _ HL4.out HMM.out).mono ?_
        rintro z w7 ⟨rfl, rfl⟩
        go_wp2_with fail
        refine (kleft_is e w.heap.size m lt _ HE4.out HMM.out).mono ?_
        rintro z w7 ⟨rfl, rfl⟩
        have hmmq : ((m : Int) != (m : Int)) = false := by simp
        go_wp2_with fail
        refine (rleft_any [r, s, d, e] r L _ (HRr4.out.same (Mod.refl [] _).drew) (by omega)).mono ?_
        rintro z w8 ⟨g8, rfl, hg8, hO8, hM8⟩
        have HW8 := Lib.hid hO8.rd
        have HM8 := Lib.hid ((Mod.refl [] w4).drew.trans hM8)
        obtain ⟨q8, hq8⟩ : ∃ q, (L : List Int).length = q := ⟨_, rfl⟩
        have HQ8 := Lib.hid hq8
        have HRs8 := Lib.hid (HRs4.out.same HM8.out)
        have HLL := Lib.hid (show (L : List Int).length ≤ 1000000 by omega)
        rw [hq8]
        clear hO8 hM8 hg8 hq8
        go_wp2_with fail
        refine (dleft_any [r, s, d, e] s L _ HRs8.out HLL.out).mono ?_
        rintro z w9 ⟨a9, c9, rfl, hr9, hM9⟩
        have HW9 := Lib.hid (HW8.out.mod hM9 (by simp))
        have HV9 := Lib.hid hr9
        have HM9 := Lib.hid (HM8.out.trans hM9)
        rw [HQ8.out]
        clear hr9 hM9
        go_wp2_with fail
        refine (same_is _ _ _ _ q8 q8 L L _ HQ8.out.symm HQ8.out.symm HW9.out HV9.out (by have := HLL.out; omega)).mono ?_
        rintro z w10 ⟨rfl, q, rfl⟩
        rw [decide_eq_true rfl]
        have HMZ := Lib.hid (HM9.out.drewN q)
        go_wp2_with fail
        go_roundw
        case rel => exact ⟨i + 1, L, lt, by go_num, HIN.out, by omega, HRr4.out.same HMZ.out, HRs4.out.same HMZ.out, HL4.out.mod HMZ.out (by simp) (by simp), HE4.out.mod HMZ.out (by simp) (by simp), HM4.out.trans HMZ.out⟩
        case measure => have := HIN.out; simp [intOf]; omega
    · obtain rfl : i = acts.length := by omega
      go_wp2_with fail
      refine (rleft_any [r, s, d, e] r L _ HRr.out (by omega)).mono ?_
      rintro z w8 ⟨g8, rfl, hg8, hO8, hM8⟩
      have HW8 := Lib.hid hO8.rd
      have HM8 := Lib.hid hM8
      obtain ⟨q8, hq8⟩ : ∃ q, L.length = q := ⟨_, rfl⟩
      have HQ8 := Lib.hid hq8
      have HRs8 := Lib.hid (HRs.out.same hM8)
      have HLL := Lib.hid (show L.length ≤ 1000000 by omega)
      rw [hq8]
      clear hO8 hM8 hg8 hq8
      go_wp2_with fail
      refine (dleft_any [r, s, d, e] s L _ HRs8.out HLL.out).mono ?_
      rintro z w9 ⟨a9, c9, rfl, hr9, hM9⟩
      have HW9 := Lib.hid (HW8.out.mod hM9 (by simp))
      have HV9 := Lib.hid hr9
      have HM9 := Lib.hid (HM8.out.trans hM9)
      rw [HQ8.out]
      clear hr9 hM9
      go_wp2_with fail
      refine (same_is _ _ _ _ q8 q8 L L _ HQ8.out.symm HQ8.out.symm HW9.out HV9.out (by have := HLL.out; omega)).mono ?_
      rintro z w10 ⟨rfl, q, rfl⟩
      rw [decide_eq_true rfl]
      have HMZ := Lib.hid (HM9.out.drewN q)
      go_wp2_with fail
      go_ret
      exact ⟨rfl, HM.out.trans HMZ.out⟩

end Go.Proofs.Ytnapboojfhojjaa
