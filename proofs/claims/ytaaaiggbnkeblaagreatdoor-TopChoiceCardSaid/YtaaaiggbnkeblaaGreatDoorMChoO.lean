/-
  The walk of a turn's promised.
  The walk of a turn's promised.
  The walk of a turn's promised.
-/
import Derived.Test.YtaaaiggbnkeblaaGreatDoorMChoI
import Derived.Deep.DeepCutAuto
namespace Go.Proofs.YtaaaiggbnkeblaaGreatDoor
set_option linter.unusedSimpArgs false
set_option linter.unusedVariables false
open Go.RowKit

set_option maxRecDepth 100000 in
set_option maxHeartbeats 8000000 in
theorem promised_0 (t : Nat) (s s' : TS) (L : List Let) (kd to' : Nat) (seq id0 ms0 bal nid far' : Int) (hb : (s.bal == 0) = false) (hl : bal = s.bal) (hd : s.done = false) (ha : s.asked = false) (hh : s.heard = 0) (hlv : s.live = 7) (hfar : (if s.far < seq then seq else s.far) = far')
    : Gives t s { s with heard := 1, far := far' } [] 0 39 #[.pointer (some ⟨t, 0, none⟩), .agg #[.int .i64 kd, .int .i64 0, .int .i64 to', .int .u64 seq, .int .i64 0, .slice none 0 0, .int .u64 id0, .int .u64 ms0, .int .u64 bal, .int .u64 0, .int .u64 nid, .int .u64 0, .int .u64 0, .slice none 0 0, .slice none 0 0, .float .f64 0]] := by
  intro w h
  have hm := (Mod.refl [] w).alloc (.cells #[.int .i64 kd, .int .i64 0, .int .i64 to', .int .u64 seq, .int .i64 0, .slice none 0 0, .int .u64 id0, .int .u64 ms0, .int .u64 bal, .int .u64 0, .int .u64 nid, .int .u64 0, .int .u64 0, .slice none 0 0, .slice none 0 0, .float .f64 0] 42)
  have HOWN := Lib.hid (show Calls Tryz.prog 82 #[.pointer (some ⟨t, 0, none⟩), .agg #[.int .i64 kd, .int .i64 0, .int .i64 to', .int .u64 seq, .int .i64 0, .slice none 0 0, .int .u64 id0, .int .u64 ms0, .int .u64 bal, .int .u64 0, .int .u64 nid, .int .u64 0, .int .u64 0, .slice none 0 0, .slice none 0 0, .float .f64 0]] (w.alloc (.cells #[.int .i64 kd, .int .i64 0, .int .i64 to', .int .u64 seq, .int .i64 0, .slice none 0 0, .int .u64 id0, .int .u64 ms0, .int .u64 bal, .int .u64 0, .int .u64 nid, .int .u64 0, .int .u64 0, .slice none 0 0, .slice none 0 0, .float .f64 0] 42)) _ from own_s t s ⟨kd, 0, to', seq, id0, ms0, bal, 0, nid, 0, 0⟩ hb hl _ (h.mod0 hm))
  have HM := Lib.hid hm
  have HH := Lib.hid (h.mod0 hm)
  have htl : t ≠ w.heap.size := Nat.ne_of_lt h.1.lt
  have HROW := Lib.hid (heap_new w (.cells #[.int .i64 kd, .int .i64 0, .int .i64 to', .int .u64 seq, .int .i64 0, .slice none 0 0, .int .u64 id0, .int .u64 ms0, .int .u64 bal, .int .u64 0, .int .u64 nid, .int .u64 0, .int .u64 0, .slice none 0 0, .slice none 0 0, .float .f64 0] 42))
  have HA := Lib.hid ha
  have HD := Lib.hid hd
  have HHD := Lib.hid hh
  have HLV := Lib.hid hlv
  have HFAR := Lib.hid hfar
  clear h hm hb hl ha hd hh hlv hfar
  go_enter Tryz.func39, Tryz.ntmps39
  go_wp2_with fail
  refine HOWN.out.mono ?_
  rintro _ w1 ⟨rfl, hM1⟩
  obtain ⟨p, hp⟩ : ∃ p, w.heap.size = p := ⟨_, rfl⟩
  have HROW1 := Lib.hid (row_mod hM1 HROW.out (by simp))
  rw [hp] at htl HROW1 ⊢
  have HM1 := Lib.hid ((HM.out.trans hM1).mono (T := [t]) (by simp))
  have HH1 := Lib.hid (HH.out.mod0 hM1)
  clear hM1 HROW HM HH HOWN hp
  have k207 := HH1.out.1.k207
  rw [HA.out] at k207
  have k211 := HH1.out.1.k211
  rw [HD.out] at k211
  have k13 := HH1.out.1.k13
  rw [HHD.out] at k13
  obtain ⟨_, d1, _, _, _, _, _, _, _, _, _, _, _, _, _, _⟩ := let_cells HROW1.out
  go_wp2_with fail
  go_region_held3 (fun w' => w'.cell? ⟨t, 13, none⟩ = some (.int .u64 0) ∧ w'.cell? ⟨p, 1, none⟩ = some (.int .i64 0)) (exact ⟨k13, d1⟩) ((go_at_call 20; refine (has_is 0 0 false (by decide) (by decide) _).mono ?_; rintro _ w5 ⟨rfl, rfl⟩))
  have HH2 := Lib.hid (HH1.out.mod0 (Mod.refl [] w1).drew)
  have HM2 := Lib.hid HM1.out.drew
  have HROW2 := Lib.hid (row_mod (Mod.refl [] w1).drew HROW1.out (by simp))
  clear HH1 HM1 HROW1 k207 k211 k13 d1
  generalize w1.drew = w2 at HH2 HM2 HROW2 ⊢
  have k13 := HH2.out.1.k13
  rw [HHD.out] at k13
  have f13 := HH2.out.1.free 13
  obtain ⟨_, d1, _, _, _, _, _, _, _, _, _, _, _, _, _, _⟩ := let_cells HROW2.out
  go_wp2_with fail
  go_cut [] (fun wx => TurnAt wx t ({ s with heard := 1 } : TS).c ∧ Mod [t] w2 wx)
  case first =>
    go_region_with (go_at_call 33; refine (with_is 0 1 0 (by decide) (by decide) _).mono ?_; rintro e w5 ⟨rfl, rfl⟩)
    all_goals go_wp2_with fail
    all_goals go_meet
    all_goals exact ⟨(HH2.out.1.s13 _).drew, ((Mod.refl [t] _).setCell (.inl (by simp)) _).drew⟩
  obtain ⟨hT, hMx⟩ := hcut
  have HT3 := Lib.hid (HH2.out.own hMx hT)
  have HM3 := Lib.hid (HM2.out.trans hMx)
  have HROW3 := Lib.hid (row_mod hMx HROW2.out (by simpa using htl.symm))
  clear hT hMx HH2 HM2 HROW2 k13 f13 d1
  obtain ⟨_, d1, _, d3, _, _, _, _, d8, d9, _, d11, d12, _, _, _⟩ := let_cells HROW3.out
  have e0 := HT3.out.1.cell 14 (by decide)
  have e1 := HT3.out.1.cell 15 (by decide)
  have e2 := HT3.out.1.cell 16 (by decide)
  rw [TS.prom _ _ (by decide) (by decide)] at e0 e1 e2
  have f0 := HT3.out.1.free 14
  have f1 := HT3.out.1.free 15
  have f2 := HT3.out.1.free 16
  go_wp2_with fail
  go_region
  have hM34 : Mod [t] wc ((((wc.setCell ⟨t, 14, none⟩ (.int .u64 0)).setCell ⟨t, 15, none⟩ (.int .u64 0)).setCell ⟨t, 16, none⟩ (.int .u64 0)).drew) := ((((Mod.refl [t] wc).setCell (.inl (by simp)) _).setCell (.inl (by simp)) _).setCell (.inl (by simp)) _).drew
  have HT4 := Lib.hid (HT3.out.own hM34 ((((HT3.out.1.sp 14 (by decide) (by decide)).sp 15 (by decide) (by decide)).sp 16 (by decide) (by decide)).drew))
  have HM4 := Lib.hid (HM3.out.trans hM34)
  have HROW4 := Lib.hid (row_mod hM34 HROW3.out (by simpa using htl.symm))
  clear hM34
  clear HT3 HM3 HROW3 d1 d3 d8 d9 d11 d12 e0 e1 e2 f0 f1 f2
  generalize (((wc.setCell ⟨t, 14, none⟩ (.int .u64 0)).setCell ⟨t, 15, none⟩ (.int .u64 0)).setCell ⟨t, 16, none⟩ (.int .u64 0)).drew = w4 at HT4 HM4 HROW4 ⊢
  have k206 := HT4.out.1.k206
  have f206 := HT4.out.1.free 206
  simp only at k206
  obtain ⟨_, _, _, d3, _, _, _, _, _, _, _, _, _, _, _, _⟩ := let_cells HROW4.out
  obtain ⟨fa, hfa⟩ : ∃ x, s.far = x := ⟨_, rfl⟩
  have hmx := HFAR.out
  rw [hfa] at k206 hmx
  go_wp2_with fail
  go_region
  try rw [hmx]
  have hM45 : Mod [t] w4 (w4.setCell ⟨t, 206, none⟩ (.int .u64 far')).drew := ((Mod.refl [t] w4).setCell (.inl (by simp)) _).drew
  have HT5 := Lib.hid (HT4.out.own hM45 (HT4.out.1.s206 far').drew)
  have HM5 := Lib.hid (HM4.out.trans hM45)
  clear hM45 HT4 HM4 HROW4 d3 k206 f206 hmx
  generalize (w4.setCell ⟨t, 206, none⟩ (.int .u64 far')).drew = w5 at HT5 HM5 ⊢
  have k11 := HT5.out.1.k11
  have k13 := HT5.out.1.k13
  have k6 := HT5.out.1.k6
  simp only at k11 k13
  rw [HLV.out] at k11
  have hb1 : bits .and .u64 7 7 = 7 := by decide
  have hb2 : bits .andNot .u64 7 1 = 6 := by decide
  go_wp2_with fail
  go_region
  try simp only [hb1, hb2]
  have HT6 := Lib.hid (HT5.out.mod0 (Mod.refl [] w5).drew)
  have HM6 := Lib.hid HM5.out.drew
  clear HT5 HM5 k11 k13 k6 hb1 hb2
  generalize w5.drew = w6 at HT6 HM6 ⊢
  go_wp2_with fail
  go_ret2
  exact ⟨_, rfl, .none HT6.out HM6.out⟩

end Go.Proofs.YtaaaiggbnkeblaaGreatDoor

namespace Go.Proofs.YtaaaiggbnkeblaaGreatDoor
set_option linter.unusedSimpArgs false
set_option linter.unusedVariables false
open Go.RowKit

set_option maxRecDepth 100000 in
set_option maxHeartbeats 8000000 in
theorem promised_1 (t : Nat) (s s' : TS) (L : List Let) (kd to' : Nat) (seq id0 ms0 bal nid far' : Int) (hb : (s.bal == 0) = false) (hl : bal = s.bal) (hd : s.done = false) (ha : s.asked = false) (hh : s.heard = 1) (hlv : s.live = 7) (hfar : (if s.far < seq then seq else s.far) = far')
    : Gives t s { s with heard := 3, far := far' } [] 0 39 #[.pointer (some ⟨t, 0, none⟩), .agg #[.int .i64 kd, .int .i64 1, .int .i64 to', .int .u64 seq, .int .i64 0, .slice none 0 0, .int .u64 id0, .int .u64 ms0, .int .u64 bal, .int .u64 0, .int .u64 nid, .int .u64 0, .int .u64 0, .slice none 0 0, .slice none 0 0, .float .f64 0]] := by
  intro w h
  have hm := (Mod.refl [] w).alloc (.cells #[.int .i64 kd, .int .i64 1, .int .i64 to', .int .u64 seq, .int .i64 0, .slice none 0 0, .int .u64 id0, .int .u64 ms0, .int .u64 bal, .int .u64 0, .int .u64 nid, .int .u64 0, .int .u64 0, .slice none 0 0, .slice none 0 0, .float .f64 0] 42)
  have HOWN := Lib.hid (show Calls Tryz.prog 82 #[.pointer (some ⟨t, 0, none⟩), .agg #[.int .i64 kd, .int .i64 1, .int .i64 to', .int .u64 seq, .int .i64 0, .slice none 0 0, .int .u64 id0, .int .u64 ms0, .int .u64 bal, .int .u64 0, .int .u64 nid, .int .u64 0, .int .u64 0, .slice none 0 0, .slice none 0 0, .float .f64 0]] (w.alloc (.cells #[.int .i64 kd, .int .i64 1, .int .i64 to', .int .u64 seq, .int .i64 0, .slice none 0 0, .int .u64 id0, .int .u64 ms0, .int .u64 bal, .int .u64 0, .int .u64 nid, .int .u64 0, .int .u64 0, .slice none 0 0, .slice none 0 0, .float .f64 0] 42)) _ from own_s t s ⟨kd, 1, to', seq, id0, ms0, bal, 0, nid, 0, 0⟩ hb hl _ (h.mod0 hm))
  have HM := Lib.hid hm
  have HH := Lib.hid (h.mod0 hm)
  have htl : t ≠ w.heap.size := Nat.ne_of_lt h.1.lt
  have HROW := Lib.hid (heap_new w (.cells #[.int .i64 kd, .int .i64 1, .int .i64 to', .int .u64 seq, .int .i64 0, .slice none 0 0, .int .u64 id0, .int .u64 ms0, .int .u64 bal, .int .u64 0, .int .u64 nid, .int .u64 0, .int .u64 0, .slice none 0 0, .slice none 0 0, .float .f64 0] 42))
  have HA := Lib.hid ha
  have HD := Lib.hid hd
  have HHD := Lib.hid hh
  have HLV := Lib.hid hlv
  have HFAR := Lib.hid hfar
  clear h hm hb hl ha hd hh hlv hfar
  go_enter Tryz.func39, Tryz.ntmps39
  go_wp2_with fail
  refine HOWN.out.mono ?_
  rintro _ w1 ⟨rfl, hM1⟩
  obtain ⟨p, hp⟩ : ∃ p, w.heap.size = p := ⟨_, rfl⟩
  have HROW1 := Lib.hid (row_mod hM1 HROW.out (by simp))
  rw [hp] at htl HROW1 ⊢
  have HM1 := Lib.hid ((HM.out.trans hM1).mono (T := [t]) (by simp))
  have HH1 := Lib.hid (HH.out.mod0 hM1)
  clear hM1 HROW HM HH HOWN hp
  have k207 := HH1.out.1.k207
  rw [HA.out] at k207
  have k211 := HH1.out.1.k211
  rw [HD.out] at k211
  have k13 := HH1.out.1.k13
  rw [HHD.out] at k13
  obtain ⟨_, d1, _, _, _, _, _, _, _, _, _, _, _, _, _, _⟩ := let_cells HROW1.out
  go_wp2_with fail
  go_region_held3 (fun w' => w'.cell? ⟨t, 13, none⟩ = some (.int .u64 1) ∧ w'.cell? ⟨p, 1, none⟩ = some (.int .i64 1)) (exact ⟨k13, d1⟩) ((go_at_call 20; refine (has_is 1 1 false (by decide) (by decide) _).mono ?_; rintro _ w5 ⟨rfl, rfl⟩))
  have HH2 := Lib.hid (HH1.out.mod0 (Mod.refl [] w1).drew)
  have HM2 := Lib.hid HM1.out.drew
  have HROW2 := Lib.hid (row_mod (Mod.refl [] w1).drew HROW1.out (by simp))
  clear HH1 HM1 HROW1 k207 k211 k13 d1
  generalize w1.drew = w2 at HH2 HM2 HROW2 ⊢
  have k13 := HH2.out.1.k13
  rw [HHD.out] at k13
  have f13 := HH2.out.1.free 13
  obtain ⟨_, d1, _, _, _, _, _, _, _, _, _, _, _, _, _, _⟩ := let_cells HROW2.out
  go_wp2_with fail
  go_cut [] (fun wx => TurnAt wx t ({ s with heard := 3 } : TS).c ∧ Mod [t] w2 wx)
  case first =>
    go_region_with (go_at_call 33; refine (with_is 1 3 1 (by decide) (by decide) _).mono ?_; rintro e w5 ⟨rfl, rfl⟩)
    all_goals go_wp2_with fail
    all_goals go_meet
    all_goals exact ⟨(HH2.out.1.s13 _).drew, ((Mod.refl [t] _).setCell (.inl (by simp)) _).drew⟩
  obtain ⟨hT, hMx⟩ := hcut
  have HT3 := Lib.hid (HH2.out.own hMx hT)
  have HM3 := Lib.hid (HM2.out.trans hMx)
  have HROW3 := Lib.hid (row_mod hMx HROW2.out (by simpa using htl.symm))
  clear hT hMx HH2 HM2 HROW2 k13 f13 d1
  obtain ⟨_, d1, _, d3, _, _, _, _, d8, d9, _, d11, d12, _, _, _⟩ := let_cells HROW3.out
  have e0 := HT3.out.1.cell 17 (by decide)
  have e1 := HT3.out.1.cell 18 (by decide)
  have e2 := HT3.out.1.cell 19 (by decide)
  rw [TS.prom _ _ (by decide) (by decide)] at e0 e1 e2
  have f0 := HT3.out.1.free 17
  have f1 := HT3.out.1.free 18
  have f2 := HT3.out.1.free 19
  go_wp2_with fail
  go_region
  have hM34 : Mod [t] wc ((((wc.setCell ⟨t, 17, none⟩ (.int .u64 0)).setCell ⟨t, 18, none⟩ (.int .u64 0)).setCell ⟨t, 19, none⟩ (.int .u64 0)).drew) := ((((Mod.refl [t] wc).setCell (.inl (by simp)) _).setCell (.inl (by simp)) _).setCell (.inl (by simp)) _).drew
  have HT4 := Lib.hid (HT3.out.own hM34 ((((HT3.out.1.sp 17 (by decide) (by decide)).sp 18 (by decide) (by decide)).sp 19 (by decide) (by decide)).drew))
  have HM4 := Lib.hid (HM3.out.trans hM34)
  have HROW4 := Lib.hid (row_mod hM34 HROW3.out (by simpa using htl.symm))
  clear hM34
  clear HT3 HM3 HROW3 d1 d3 d8 d9 d11 d12 e0 e1 e2 f0 f1 f2
  generalize (((wc.setCell ⟨t, 17, none⟩ (.int .u64 0)).setCell ⟨t, 18, none⟩ (.int .u64 0)).setCell ⟨t, 19, none⟩ (.int .u64 0)).drew = w4 at HT4 HM4 HROW4 ⊢
  have k206 := HT4.out.1.k206
  have f206 := HT4.out.1.free 206
  simp only at k206
  obtain ⟨_, _, _, d3, _, _, _, _, _, _, _, _, _, _, _, _⟩ := let_cells HROW4.out
  obtain ⟨fa, hfa⟩ : ∃ x, s.far = x := ⟨_, rfl⟩
  have hmx := HFAR.out
  rw [hfa] at k206 hmx
  go_wp2_with fail
  go_region
  try rw [hmx]
  have hM45 : Mod [t] w4 (w4.setCell ⟨t, 206, none⟩ (.int .u64 far')).drew := ((Mod.refl [t] w4).setCell (.inl (by simp)) _).drew
  have HT5 := Lib.hid (HT4.out.own hM45 (HT4.out.1.s206 far').drew)
  have HM5 := Lib.hid (HM4.out.trans hM45)
  clear hM45 HT4 HM4 HROW4 d3 k206 f206 hmx
  generalize (w4.setCell ⟨t, 206, none⟩ (.int .u64 far')).drew = w5 at HT5 HM5 ⊢
  have k11 := HT5.out.1.k11
  have k13 := HT5.out.1.k13
  have k6 := HT5.out.1.k6
  simp only at k11 k13
  rw [HLV.out] at k11
  have hb1 : bits .and .u64 7 7 = 7 := by decide
  have hb2 : bits .andNot .u64 7 3 = 4 := by decide
  go_wp2_with fail
  go_region
  try simp only [hb1, hb2]
  have HT6 := Lib.hid (HT5.out.mod0 (Mod.refl [] w5).drew)
  have HM6 := Lib.hid HM5.out.drew
  clear HT5 HM5 k11 k13 k6 hb1 hb2
  generalize w5.drew = w6 at HT6 HM6 ⊢
  go_wp2_with fail
  go_ret2
  exact ⟨_, rfl, .none HT6.out HM6.out⟩

end Go.Proofs.YtaaaiggbnkeblaaGreatDoor

namespace Go.Proofs.YtaaaiggbnkeblaaGreatDoor
set_option linter.unusedSimpArgs false
set_option linter.unusedVariables false
open Go.RowKit

set_option maxRecDepth 100000 in
set_option maxHeartbeats 8000000 in
theorem promised_2 (t : Nat) (s s' : TS) (L : List Let) (kd to' : Nat) (seq id0 ms0 bal nid far' : Int) (hb : (s.bal == 0) = false) (hl : bal = s.bal) (hd : s.done = false) (ha : s.asked = false) (hh : s.heard = 3) (hlv : s.live = 7) (hfar : (if s.far < seq then seq else s.far) = far')
    (H : Gives t { s with heard := 7, far := far' } s' L 0 83 #[.pointer (some ⟨t, 0, none⟩)])
    : Gives t s s' L 0 39 #[.pointer (some ⟨t, 0, none⟩), .agg #[.int .i64 kd, .int .i64 2, .int .i64 to', .int .u64 seq, .int .i64 0, .slice none 0 0, .int .u64 id0, .int .u64 ms0, .int .u64 bal, .int .u64 0, .int .u64 nid, .int .u64 0, .int .u64 0, .slice none 0 0, .slice none 0 0, .float .f64 0]] := by
  intro w h
  have hm := (Mod.refl [] w).alloc (.cells #[.int .i64 kd, .int .i64 2, .int .i64 to', .int .u64 seq, .int .i64 0, .slice none 0 0, .int .u64 id0, .int .u64 ms0, .int .u64 bal, .int .u64 0, .int .u64 nid, .int .u64 0, .int .u64 0, .slice none 0 0, .slice none 0 0, .float .f64 0] 42)
  have HOWN := Lib.hid (show Calls Tryz.prog 82 #[.pointer (some ⟨t, 0, none⟩), .agg #[.int .i64 kd, .int .i64 2, .int .i64 to', .int .u64 seq, .int .i64 0, .slice none 0 0, .int .u64 id0, .int .u64 ms0, .int .u64 bal, .int .u64 0, .int .u64 nid, .int .u64 0, .int .u64 0, .slice none 0 0, .slice none 0 0, .float .f64 0]] (w.alloc (.cells #[.int .i64 kd, .int .i64 2, .int .i64 to', .int .u64 seq, .int .i64 0, .slice none 0 0, .int .u64 id0, .int .u64 ms0, .int .u64 bal, .int .u64 0, .int .u64 nid, .int .u64 0, .int .u64 0, .slice none 0 0, .slice none 0 0, .float .f64 0] 42)) _ from own_s t s ⟨kd, 2, to', seq, id0, ms0, bal, 0, nid, 0, 0⟩ hb hl _ (h.mod0 hm))
  have HM := Lib.hid hm
  have HH := Lib.hid (h.mod0 hm)
  have htl : t ≠ w.heap.size := Nat.ne_of_lt h.1.lt
  have HROW := Lib.hid (heap_new w (.cells #[.int .i64 kd, .int .i64 2, .int .i64 to', .int .u64 seq, .int .i64 0, .slice none 0 0, .int .u64 id0, .int .u64 ms0, .int .u64 bal, .int .u64 0, .int .u64 nid, .int .u64 0, .int .u64 0, .slice none 0 0, .slice none 0 0, .float .f64 0] 42))
  have HA := Lib.hid ha
  have HD := Lib.hid hd
  have HHD := Lib.hid hh
  have HLV := Lib.hid hlv
  have HFAR := Lib.hid hfar
  have HS := Lib.hid H
  clear H
  clear h hm hb hl ha hd hh hlv hfar
  go_enter Tryz.func39, Tryz.ntmps39
  go_wp2_with fail
  refine HOWN.out.mono ?_
  rintro _ w1 ⟨rfl, hM1⟩
  obtain ⟨p, hp⟩ : ∃ p, w.heap.size = p := ⟨_, rfl⟩
  have HROW1 := Lib.hid (row_mod hM1 HROW.out (by simp))
  rw [hp] at htl HROW1 ⊢
  have HM1 := Lib.hid ((HM.out.trans hM1).mono (T := [t]) (by simp))
  have HH1 := Lib.hid (HH.out.mod0 hM1)
  clear hM1 HROW HM HH HOWN hp
  have k207 := HH1.out.1.k207
  rw [HA.out] at k207
  have k211 := HH1.out.1.k211
  rw [HD.out] at k211
  have k13 := HH1.out.1.k13
  rw [HHD.out] at k13
  obtain ⟨_, d1, _, _, _, _, _, _, _, _, _, _, _, _, _, _⟩ := let_cells HROW1.out
  go_wp2_with fail
  go_region_held3 (fun w' => w'.cell? ⟨t, 13, none⟩ = some (.int .u64 3) ∧ w'.cell? ⟨p, 1, none⟩ = some (.int .i64 2)) (exact ⟨k13, d1⟩) ((go_at_call 20; refine (has_is 3 2 false (by decide) (by decide) _).mono ?_; rintro _ w5 ⟨rfl, rfl⟩))
  have HH2 := Lib.hid (HH1.out.mod0 (Mod.refl [] w1).drew)
  have HM2 := Lib.hid HM1.out.drew
  have HROW2 := Lib.hid (row_mod (Mod.refl [] w1).drew HROW1.out (by simp))
  clear HH1 HM1 HROW1 k207 k211 k13 d1
  generalize w1.drew = w2 at HH2 HM2 HROW2 ⊢
  have k13 := HH2.out.1.k13
  rw [HHD.out] at k13
  have f13 := HH2.out.1.free 13
  obtain ⟨_, d1, _, _, _, _, _, _, _, _, _, _, _, _, _, _⟩ := let_cells HROW2.out
  go_wp2_with fail
  go_cut [] (fun wx => TurnAt wx t ({ s with heard := 7 } : TS).c ∧ Mod [t] w2 wx)
  case first =>
    go_region_with (go_at_call 33; refine (with_is 3 7 2 (by decide) (by decide) _).mono ?_; rintro e w5 ⟨rfl, rfl⟩)
    all_goals go_wp2_with fail
    all_goals go_meet
    all_goals exact ⟨(HH2.out.1.s13 _).drew, ((Mod.refl [t] _).setCell (.inl (by simp)) _).drew⟩
  obtain ⟨hT, hMx⟩ := hcut
  have HT3 := Lib.hid (HH2.out.own hMx hT)
  have HM3 := Lib.hid (HM2.out.trans hMx)
  have HROW3 := Lib.hid (row_mod hMx HROW2.out (by simpa using htl.symm))
  clear hT hMx HH2 HM2 HROW2 k13 f13 d1
  obtain ⟨_, d1, _, d3, _, _, _, _, d8, d9, _, d11, d12, _, _, _⟩ := let_cells HROW3.out
  have e0 := HT3.out.1.cell 20 (by decide)
  have e1 := HT3.out.1.cell 21 (by decide)
  have e2 := HT3.out.1.cell 22 (by decide)
  rw [TS.prom _ _ (by decide) (by decide)] at e0 e1 e2
  have f0 := HT3.out.1.free 20
  have f1 := HT3.out.1.free 21
  have f2 := HT3.out.1.free 22
  go_wp2_with fail
  go_region
  have hM34 : Mod [t] wc ((((wc.setCell ⟨t, 20, none⟩ (.int .u64 0)).setCell ⟨t, 21, none⟩ (.int .u64 0)).setCell ⟨t, 22, none⟩ (.int .u64 0)).drew) := ((((Mod.refl [t] wc).setCell (.inl (by simp)) _).setCell (.inl (by simp)) _).setCell (.inl (by simp)) _).drew
  have HT4 := Lib.hid (HT3.out.own hM34 ((((HT3.out.1.sp 20 (by decide) (by decide)).sp 21 (by decide) (by decide)).sp 22 (by decide) (by decide)).drew))
  have HM4 := Lib.hid (HM3.out.trans hM34)
  have HROW4 := Lib.hid (row_mod hM34 HROW3.out (by simpa using htl.symm))
  clear hM34
  clear HT3 HM3 HROW3 d1 d3 d8 d9 d11 d12 e0 e1 e2 f0 f1 f2
  generalize (((wc.setCell ⟨t, 20, none⟩ (.int .u64 0)).setCell ⟨t, 21, none⟩ (.int .u64 0)).setCell ⟨t, 22, none⟩ (.int .u64 0)).drew = w4 at HT4 HM4 HROW4 ⊢
  have k206 := HT4.out.1.k206
  have f206 := HT4.out.1.free 206
  simp only at k206
  obtain ⟨_, _, _, d3, _, _, _, _, _, _, _, _, _, _, _, _⟩ := let_cells HROW4.out
  obtain ⟨fa, hfa⟩ : ∃ x, s.far = x := ⟨_, rfl⟩
  have hmx := HFAR.out
  rw [hfa] at k206 hmx
  go_wp2_with fail
  go_region
  try rw [hmx]
  have hM45 : Mod [t] w4 (w4.setCell ⟨t, 206, none⟩ (.int .u64 far')).drew := ((Mod.refl [t] w4).setCell (.inl (by simp)) _).drew
  have HT5 := Lib.hid (HT4.out.own hM45 (HT4.out.1.s206 far').drew)
  have HM5 := Lib.hid (HM4.out.trans hM45)
  clear hM45 HT4 HM4 HROW4 d3 k206 f206 hmx
  generalize (w4.setCell ⟨t, 206, none⟩ (.int .u64 far')).drew = w5 at HT5 HM5 ⊢
  have k11 := HT5.out.1.k11
  have k13 := HT5.out.1.k13
  have k6 := HT5.out.1.k6
  simp only at k11 k13
  rw [HLV.out] at k11
  have hb1 : bits .and .u64 7 7 = 7 := by decide
  have hb2 : bits .andNot .u64 7 7 = 0 := by decide
  go_wp2_with fail
  go_region
  try simp only [hb1, hb2]
  have HT6 := Lib.hid (HT5.out.mod0 (Mod.refl [] w5).drew)
  have HM6 := Lib.hid HM5.out.drew
  clear HT5 HM5 k11 k13 k6 hb1 hb2
  generalize w5.drew = w6 at HT6 HM6 ⊢
  have HX := Lib.hid (HS.out _ HT6.out)
  go_wp2_with fail
  refine HX.out.mono ?_
  rintro _ w9 ⟨v, rfl, hO⟩
  have HO := Lib.hid (hO.back HM6.out)
  clear hO
  go_wp2_with fail
  go_ret2
  exact ⟨v, rfl, HO.out⟩

end Go.Proofs.YtaaaiggbnkeblaaGreatDoor
