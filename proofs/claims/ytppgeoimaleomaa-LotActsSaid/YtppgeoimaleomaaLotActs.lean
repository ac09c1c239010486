/-
  The walk of the law LotActs.
-/
import Derived.Test.YtppgeoimaleomaaActs
import Derived.Test.YtppgeoimaleomaaLotPerm
import Derived.Deep.RegionHeld3
namespace Go.Proofs.Ytppgeoimaleomaa
open Go.RowKit

theorem Mod.cell_of {S : List Nat} {a b : World} (h : Mod S a b) {p : Addr} {v : Value} (hc : a.cell? p = some v) (hs : p.block ∉ S) : b.cell? p = some v := (h.cell (cell_lt hc) hs).trans hc

/-- What Some answers, and what is left. -/
def SomeAll (w : World) (d g : Nat) (ys ls' : List Int) (e : Ending) (w' : World) : Prop := ∃ a c, e = .returned (.slice a ys.length c) ∧ RdInts .i64 w' a ys ∧ LotsAt w' d g ls' ∧ Mod [d] w w' ∧ ∀ ad, a = some ad → w.heap.size ≤ ad.block

theorem some_all (d g : Nat) (a : Option Addr) (c m : Nat) (n : Int) (xs ls ys : List Int) (w : World) (hr : RdInts .i64 w a xs) (hlen : xs.length * 8 ≤ 140737488351232) (hl : LotsAt w d g ls) (hm : (m : Int) = min (max n 0) xs.length) (hy : (shufOut xs ls).take m = ys) :
    Calls Try.prog 13 #[.pointer (some ⟨d, 0, none⟩), .slice a xs.length c, .int .i64 n] w (SomeAll w d g ys (if n < 1 then ls else shufLots xs ls)) := by
  subst hy
  by_cases hn : n < 1
  · rw [if_pos hn]
    refine (some_zero _ _ n w hn).mono ?_
    rintro e w' ⟨rfl, rfl⟩
    obtain rfl : m = 0 := by omega
    exact ⟨none, 0, rfl, fun h => absurd rfl h, hl, Mod.refl _ _, fun ad h => by cases h⟩
  · rw [if_neg hn]
    refine (some_pos d g a c m n xs ls w hr hlen hl (by omega) (by omega)).mono ?_
    rintro e w' ⟨g', rfl, hg', hO, hL, hM⟩
    have hl' : ((shufOut xs ls).take m).length = m := by simp [shufOut_length]; omega
    exact ⟨some ⟨g', 0, none⟩, m, by rw [hl'], hO.rd.take m, hL, hM, fun ad h => by cases h; exact hg'⟩

theorem RefLots.made {w w2 : World} {a : Option Addr} {c : Nat} {ls : List Int} (hr : RdInts .u64 w a ls) (hx : ∀ x ∈ ls, 0 ≤ x ∧ x ≤ 18446744073709551615) (hl : ls.length < 4611686018427387904) (hm : Mod [] w w2) (t : TypeId) :
    RefLots (w2.alloc (.cells #[.slice a ls.length c, .int .i64 0] t)) w2.heap.size w.heap.size ls := by
  refine ⟨a, c, ls, 0, ?_, ?_, ?_, Nat.zero_le _, hl, fun hne => ?_, hx, hm.size, rfl⟩
  · simp
  · simp
  · simp
  · obtain ⟨ad, h1, h2, h3⟩ := hr hne
    obtain ⟨y, hy⟩ : ∃ y, ls[0]? = some y := ⟨_, List.getElem?_eq_getElem (List.length_pos_iff.2 hne)⟩
    have h0 := h3 0 y hy
    simp only [Addr.add, if_true] at h0
    have hs := World.cell?_spot h0
    obtain ⟨b, o, s⟩ := ad
    simp only at hs
    subst hs
    refine ⟨b, o, h1, h2, fun j x hj => ?_⟩
    have hc := h3 j x hj
    rw [add_lit] at hc
    exact (((hm.trans (Mod.refl _ _)).alloc _).cell_of hc (by simp))

def ActsRel (w : World) (d g r n : Nat) (v : Value) (wr : World) : Prop :=
  ∃ (i : Nat) (ls : List Int), v = .int .i64 i ∧ i ≤ n ∧ LotsAt wr d g ls ∧ RefLots wr r w.heap.size ls ∧ Mod [] w wr

set_option maxRecDepth 100000 in
set_option maxHeartbeats 8000000 in
theorem walk_LotActs (w : World) (a : Option Addr) (c : Nat) (ls : List Int) (hr : RdInts .u64 w a ls) (hwf : ∀ x ∈ ls, (Lit.int .u64 x).wf = true) (_nc : a = none → c = 0) (b : Option Addr) (c2 : Nat) (acts : List ActV) (hat : ActsAt w b acts) :
    Calls Try.prog 3 #[.slice a ls.length c, .slice b acts.length c2] w (TruePost w) := by
  have hx := wf_u64s hwf
  have HX := Lib.hid hx
  have HR := Lib.hid hr
  have HAT := Lib.hid hat
  clear hx hwf hr hat _nc
  by_cases h300 : (300 : Int) < ls.length
  · go_enter Try.func3, Try.ntmps3
    go_wp2_with (go_at_call 4; refine (shown03 _).mono ?_; rintro e w1 ⟨rfl, hM⟩)
    go_ret
    exact ⟨rfl, hM⟩
  by_cases h60 : (60 : Int) < acts.length
  · go_enter Try.func3, Try.ntmps3
    go_wp2_with (go_at_call 4; refine (shown03 _).mono ?_; rintro e w1 ⟨rfl, hM⟩)
    go_ret
    exact ⟨rfl, hM⟩
  have hlen : ls.length ≤ 300 := by omega
  have hlen2 : acts.length ≤ 60 := by omega
  go_enter Try.func3, Try.ntmps3
  go_wp2_with fail
  refine (shown03 _).mono ?_
  rintro e w1 ⟨rfl, hM⟩
  have HM1 := Lib.hid hM
  have HR1 := Lib.hid (HR.out.mod hM (by simp))
  clear hM
  go_wp2_with fail
  refine (new_any a c ls _ HR1.out (by omega) HX.out).mono ?_
  rintro e w2 ⟨d, g, rfl, hd, hg, hL, hM⟩
  have HM2 := Lib.hid (HM1.out.trans hM)
  have HL2 := Lib.hid hL
  have HD := Lib.hid (show w.heap.size ≤ d ∧ w.heap.size ≤ g by have := HM1.out.size; omega)
  have HLT := Lib.hid hL.lt
  have HR2 := Lib.hid (HR.out.mod HM2.out (by simp))
  clear hM hL hd hg
  -- THE LOOP
  go_wp2_with fail
  have hmod0 : Mod [] w (w2.alloc (.cells #[.slice a ls.length c, .int .i64 0] 28)) := HM2.out.alloc _
  have HREF := Lib.hid (RefLots.made (c := c) HR.out HX.out (by omega) HM2.out 28)
  have HMOD := Lib.hid hmod0
  have HL3 := Lib.hid (HL2.out.mod ((Mod.refl [] w2).alloc (.cells #[.slice a ls.length c, .int .i64 0] 28)) (by simp) (by simp))
  have HNE := Lib.hid (show d ≠ w2.heap.size ∧ g ≠ w2.heap.size ∧ w.heap.size ≤ w2.heap.size by have := HLT.out; have := HM2.out.size; omega)
  clear hmod0 HLT HR2 HR1
  go_loopw [7] (fun v wr => ActsRel w d g w2.heap.size acts.length v wr) (fun v _ => acts.length - (intOf v).toNat)
  case atStart => exact ⟨0, ls, rfl, Nat.zero_le _, HL3.out, HREF.out, HMOD.out⟩
  case round =>
    obtain ⟨i, lt, rfl, hi, hL, hRf, hM⟩ := hrel
    have HL := Lib.hid hL
    have HRf := Lib.hid hRf
    have HM := Lib.hid hM
    clear hL hRf hM HL3 HREF HMOD HL2
    by_cases hlt : (i : Int) < acts.length
    · have hlt' : i < acts.length := by omega
      obtain ⟨t, ht⟩ : ∃ t, acts[i]? = some t := ⟨_, List.getElem?_eq_getElem hlt'⟩
      obtain ⟨ab, ao, rfl, hab, hcells⟩ := HAT.out (by intro h; rw [h] at hlt'; simp at hlt')
      obtain ⟨f0, f1, f2, frd, fnc, fb⟩ := hcells i t ht
      obtain ⟨tk, tn, ta, tc, tl⟩ := t
      simp only at f0 f1 f2 frd fnc fb
      have HF1 := Lib.hid f1
      have HF2 := Lib.hid f2
      have HRD := Lib.hid frd
      have HNC := Lib.hid fnc
      have HB := Lib.hid fb
      have HAB := Lib.hid hab
      have c0 := HM.out.cell_of f0 (by simp)
      have c1 := HM.out.cell_of f1 (by simp)
      have c2' := HM.out.cell_of f2 (by simp)
      have h160 : (i : Int) < 60 := by omega
      clear hcells ht f0 f1 f2 frd fnc fb hab
      by_cases hlong : (100 : Int) < tl.length
      · go_wp2_with fail
        refine (shown03 _).mono ?_
        rintro e w5 ⟨rfl, hM⟩
        go_wp2_with fail
        go_ret
        exact ⟨rfl, HM.out.trans hM⟩
      · have hshort : tl.length ≤ 100 := by omega
        by_cases k0 : tk = 0
        · have hk0 : (tk == 0) = true := by simpa using k0
          clear k0
          obtain ⟨y, hy⟩ : ∃ y, lt.headD 0 = y := ⟨_, rfl⟩
          have HY := Lib.hid hy
          clear hy
          go_wp2_with fail
          refine (next_is d g lt y _ HL.out HY.out).mono ?_
          rintro e w5 ⟨rfl, hL, hM⟩
          have HL5 := Lib.hid hL
          have HR5 := Lib.hid (HRf.out.mod hM (by have := HNE.out; simp; omega) (by simpa using HD.out.1))
          have HM5 := Lib.hid (HM.out.step hM (by simpa using HD.out.1))
          clear hL hM
          go_wp2_with fail
          refine (rnext_is w2.heap.size w.heap.size lt y _ HR5.out HY.out).mono ?_
          rintro e w6 ⟨rfl, hR, hM⟩
          have HR6 := Lib.hid hR
          have HL6 := Lib.hid (HL5.out.mod hM (by have := HNE.out; simp; omega) (by have := HNE.out; simp; omega))
          have HM6 := Lib.hid (HM5.out.step hM (by simpa using HNE.out.2.2))
          have hyy : (y == y) = true := by simp
          clear hR hM
          go_wp2_with fail
          obtain ⟨m, hm⟩ : ∃ m, (lt.tail).length = m := ⟨_, rfl⟩
          have HMM := Lib.hid hm
          clear hm
          refine (left_is d g m (lt.tail) _ HL6.out HMM.out).mono ?_
          rintro e w8 ⟨rfl, rfl⟩
          go_wp2_with fail
          refine (rleft_is w2.heap.size w.heap.size m (lt.tail) _ HR6.out HMM.out).mono ?_
          rintro e w8 ⟨rfl, rfl⟩
          go_wp2_with fail
          go_roundw
          case rel => exact ⟨i + 1, lt.tail, by go_num, by omega, HL6.out.drew, HR6.out.mod (Mod.refl [] _).drew (by simp) (by simp), HM6.out.drew⟩
          case measure => simp [intOf]; omega
        have hk0 : (tk == 0) = false := by simpa using k0
        by_cases k1 : tk = 1
        · have hk1 : (tk == 1) = true := by simpa using k1
          clear k0 k1
          obtain ⟨y, hy⟩ : ∃ y, lotBelow lt tn = y := ⟨_, rfl⟩
          have HY := Lib.hid hy
          clear hy
          have hyy : (y == y) = true := by simp
          go_wp2_with fail
          go_region_held3 (fun w' => w'.cell? ⟨ab, ao + i * 3 + 1, none⟩ = some (.int .i64 tn)) (first | go_keep | exact HM5.out.cell_of HF1.out (by simp) | exact HM6.out.cell_of HF1.out (by simp)) (first | (go_at_call 8; refine (below_any d g lt tn _ (HL.out.drew) HB.out.2).mono ?_; rintro e w5 ⟨rfl, hL, hM⟩; rw [HY.out]; have HL5 := Lib.hid hL; have HR5 := Lib.hid ((HRf.out.mod (Mod.refl [] _).drew (by simp) (by simp)).mod hM (by have := HNE.out; simp; omega) (by simpa using HD.out.1)); have HM5 := Lib.hid (HM.out.drew.step hM (by simpa using HD.out.1)); clear hL hM) | (go_at_call 9; refine (rbelow_any w2.heap.size w.heap.size lt tn _ HR5.out HB.out.2).mono ?_; rintro e w6 ⟨rfl, hR, hM⟩; rw [HY.out]; have HR6 := Lib.hid hR; have HL6 := Lib.hid (HL5.out.mod hM (by have := HNE.out; simp; omega) (by have := HNE.out; simp; omega)); have HM6 := Lib.hid (HM5.out.step hM (by simpa using HNE.out.2.2)); clear hR hM))
          go_wp2_with fail
          obtain ⟨m, hm⟩ : ∃ m, (lotRest lt tn).length = m := ⟨_, rfl⟩
          have HMM := Lib.hid hm
          clear hm
          refine (left_is d g m (lotRest lt tn) _ HL6.out HMM.out).mono ?_
          rintro e w8 ⟨rfl, rfl⟩
          go_wp2_with fail
          refine (rleft_is w2.heap.size w.heap.size m (lotRest lt tn) _ HR6.out HMM.out).mono ?_
          rintro e w8 ⟨rfl, rfl⟩
          go_wp2_with fail
          go_roundw
          case rel => exact ⟨i + 1, lotRest lt tn, by go_num, by omega, HL6.out.drew, HR6.out.mod (Mod.refl [] _).drew (by simp) (by simp), HM6.out.drew⟩
          case measure => simp [intOf]; omega
        have hk1 : (tk == 1) = false := by simpa using k1
        by_cases k2 : tk = 2
        · have hk2 : (tk == 2) = true := by simpa using k2
          clear k0 k1 k2
          go_wp2_with fail
          go_region_held3 (fun w' => w'.cell? ⟨ab, ao + i * 3 + 2, none⟩ = some (.slice ta tl.length tc)) (first | go_keep | exact HM5.out.cell_of HF2.out (by simp) | exact HM6.out.cell_of HF2.out (by simp)) (first | (go_at_call 11; refine (shuffle_any d g ta tc tl lt _ ((HRD.out.mod HM.out (by simp)).drewN 1) (by omega) (HL.out.drew)).mono ?_; rintro e w5 ⟨g5, rfl, hg5, hO, hL, hM⟩; have HL5 := Lib.hid (show LotsAt w5 d g (shufLots tl lt) from hL); have HR5 := Lib.hid ((HRf.out.mod (Mod.refl [] _).drew (by simp) (by simp)).mod hM (by have := HNE.out; simp; omega) (by simpa using HD.out.1)); have HM5 := Lib.hid (HM.out.drew.step hM (by simpa using HD.out.1)); have HO5 := Lib.hid (show OwnInts w5 g5 (shufOut tl lt) from hO); have HG5 := Lib.hid (show g5 < w5.heap.size from (Array.getElem?_eq_some_iff.1 hO).1); have HG5' := Lib.hid (show w2.heap.size < g5 by have h1 := HRf.out.lt.1; have h2 : wr.heap.size ≤ g5 := hg5; omega); clear hL hM hO hg5) | (go_at_call 12; refine (rshuffle_any w2.heap.size w.heap.size ta tc tl lt _ (HRD.out.mod HM5.out (by simp)) HNC.out (by omega) HR5.out).mono ?_; rintro e w6 ⟨g6, c6, rfl, hc6, hg6, hO, hR, hM⟩; have HR6 := Lib.hid hR; have HL6 := Lib.hid (HL5.out.mod hM (by have := HNE.out; simp; omega) (by have := HNE.out; simp; omega)); have HM6 := Lib.hid (HM5.out.step hM (by simpa using HNE.out.2.2)); have HO6 := Lib.hid (HO5.out.mod hM (by have := HG5'.out; simp; omega)); have HP6 := Lib.hid hO; clear hR hM hO) | (go_at_call 10; refine (same_is (some ⟨g5, 0, none⟩) (some ⟨g6, 0, none⟩) tl.length c6 _ _ (shufOut tl lt) (shufOut tl lt) _ (shufOut_length _ _).symm (shufOut_length _ _).symm HO6.out.rd HP6.out.rd (by rw [shufOut_length]; omega)).mono ?_; rintro e w7 ⟨rfl, n7, rfl⟩; rw [show decide (shufOut tl lt = shufOut tl lt) = true from decide_eq_true rfl]; have HL7 := Lib.hid (HL6.out.mod ((Mod.refl [] _).drewN n7) (by simp) (by simp)); have HR7 := Lib.hid (HR6.out.mod ((Mod.refl [] _).drewN n7) (by simp) (by simp)); have HM7 := Lib.hid (HM6.out.drewN n7)))
          go_wp2_with fail
          obtain ⟨m, hm⟩ : ∃ m, (shufLots tl lt).length = m := ⟨_, rfl⟩
          have HMM := Lib.hid hm
          clear hm
          refine (left_is d g m (shufLots tl lt) _ HL7.out HMM.out).mono ?_
          rintro e w8 ⟨rfl, rfl⟩
          go_wp2_with fail
          refine (rleft_is w2.heap.size w.heap.size m (shufLots tl lt) _ HR7.out HMM.out).mono ?_
          rintro e w8 ⟨rfl, rfl⟩
          go_wp2_with fail
          go_roundw
          case rel => exact ⟨i + 1, shufLots tl lt, by go_num, by omega, HL7.out.drew, HR7.out.mod (Mod.refl [] _).drew (by simp) (by simp), HM7.out.drew⟩
          case measure => simp [intOf]; omega
        have hk2 : (tk == 2) = false := by simpa using k2
        by_cases k3 : tk = 3
        · have hk3 : (tk == 3) = true := by simpa using k3
          clear k0 k1 k2 k3
          obtain ⟨m3, hm3⟩ : ∃ m : Nat, (m : Int) = min (max tn 0) tl.length := ⟨(min (max tn 0) tl.length).toNat, by omega⟩
          obtain ⟨ys, hys⟩ : ∃ ys, (shufOut tl lt).take m3 = ys := ⟨_, rfl⟩
          have HM3' := Lib.hid hm3
          have HYS := Lib.hid hys
          have hyl : ys.length ≤ 100 := by rw [← hys]; simp [shufOut_length]; omega
          clear hm3 hys
          go_wp2_with fail
          go_region_held3 (fun w' => w'.cell? ⟨ab, ao + i * 3 + 2, none⟩ = some (.slice ta tl.length tc) ∧ w'.cell? ⟨ab, ao + i * 3 + 1, none⟩ = some (.int .i64 tn)) (first | go_keep | exact ⟨HM5.out.cell_of HF2.out (by simp), HM5.out.cell_of HF1.out (by simp)⟩ | exact ⟨HM6.out.cell_of HF2.out (by simp), HM6.out.cell_of HF1.out (by simp)⟩) (first | (go_at_call 13; refine (some_all d g ta tc m3 tn tl lt ys _ ((HRD.out.mod HM.out (by simp)).drewN 1) (by omega) (HL.out.drew) HM3'.out HYS.out).mono ?_; rintro e w5 ⟨a5, c5, rfl, hO, hL, hM, hbk⟩; have HBK := Lib.hid (show ∀ ad, a5 = some ad → w2.heap.size ≠ ad.block from fun ad h => by have h1 := HRf.out.lt.1; have h2 : wr.heap.size ≤ ad.block := hbk ad h; omega); have HL5 := Lib.hid hL; have HR5 := Lib.hid ((HRf.out.mod (Mod.refl [] _).drew (by simp) (by simp)).mod hM (by have := HNE.out; simp; omega) (by simpa using HD.out.1)); have HM5 := Lib.hid (HM.out.drew.step hM (by simpa using HD.out.1)); have HO5 := Lib.hid hO; clear hL hM hO hbk) | (go_at_call 14; refine (rsome_any w2.heap.size w.heap.size ta tc m3 tn tl lt ys _ (HRD.out.mod HM5.out (by simp)) HNC.out (by omega) HR5.out HM3'.out HYS.out).mono ?_; rintro e w6 ⟨a6, c6, rfl, hO, hR, hM⟩; have HR6 := Lib.hid hR; have HL6 := Lib.hid (HL5.out.mod hM (by have := HNE.out; simp; omega) (by have := HNE.out; simp; omega)); have HM6 := Lib.hid (HM5.out.step hM (by simpa using HNE.out.2.2)); have HO6 := Lib.hid (HO5.out.mod hM (fun ad h => by simpa using fun e => HBK.out ad h e.symm)); have HP6 := Lib.hid hO; clear hR hM hO) | (go_at_call 10; refine (same_any a5 a6 c5 c6 ys ys _ HO6.out HP6.out (by omega)).mono ?_; rintro e w7 ⟨rfl, n7, rfl⟩; rw [show decide (ys = ys) = true from decide_eq_true rfl]; have HL7 := Lib.hid (HL6.out.mod ((Mod.refl [] _).drewN n7) (by simp) (by simp)); have HR7 := Lib.hid (HR6.out.mod ((Mod.refl [] _).drewN n7) (by simp) (by simp)); have HM7 := Lib.hid (HM6.out.drewN n7)))
          go_wp2_with fail
          obtain ⟨m, hm⟩ : ∃ m, (if tn < 1 then lt else shufLots tl lt).length = m := ⟨_, rfl⟩
          have HMM := Lib.hid hm
          clear hm
          refine (left_is d g m (if tn < 1 then lt else shufLots tl lt) _ HL7.out HMM.out).mono ?_
          rintro e w8 ⟨rfl, rfl⟩
          go_wp2_with fail
          refine (rleft_is w2.heap.size w.heap.size m (if tn < 1 then lt else shufLots tl lt) _ HR7.out HMM.out).mono ?_
          rintro e w8 ⟨rfl, rfl⟩
          go_wp2_with fail
          go_roundw
          case rel => exact ⟨i + 1, if tn < 1 then lt else shufLots tl lt, by go_num, by omega, HL7.out.drew, HR7.out.mod (Mod.refl [] _).drew (by simp) (by simp), HM7.out.drew⟩
          case measure => simp [intOf]; omega
        · have hk3 : (tk == 3) = false := by simpa using k3
          clear k0 k1 k2 k3
          go_wp2_with fail
          obtain ⟨m, hm⟩ : ∃ m, (lt).length = m := ⟨_, rfl⟩
          have HMM := Lib.hid hm
          clear hm
          refine (left_is d g m (lt) _ HL.out HMM.out).mono ?_
          rintro e w8 ⟨rfl, rfl⟩
          go_wp2_with fail
          refine (rleft_is w2.heap.size w.heap.size m (lt) _ HRf.out HMM.out).mono ?_
          rintro e w8 ⟨rfl, rfl⟩
          go_wp2_with fail
          go_roundw
          case rel => exact ⟨i + 1, lt, by go_num, by omega, HL.out.drew, HRf.out.mod (Mod.refl [] _).drew (by simp) (by simp), HM.out.drew⟩
          case measure => simp [intOf]; omega
    · go_wp2_with fail
      obtain ⟨m, hm⟩ : ∃ m, lt.length = m := ⟨_, rfl⟩
      have HMM := Lib.hid hm
      clear hm
      refine (left_is d g m lt _ HL.out HMM.out).mono ?_
      rintro e w8 ⟨rfl, rfl⟩
      go_wp2_with fail
      refine (rleft_is w2.heap.size w.heap.size m lt _ HRf.out HMM.out).mono ?_
      rintro e w8 ⟨rfl, rfl⟩
      have hmm : ((m : Int) == (m : Int)) = true := by simp
      go_wp2_with fail
      go_ret
      exact ⟨rfl, HM.out.drew⟩

end Go.Proofs.Ytppgeoimaleomaa
