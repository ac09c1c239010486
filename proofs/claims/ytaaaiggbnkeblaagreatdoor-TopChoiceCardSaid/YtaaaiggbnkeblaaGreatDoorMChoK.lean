/-
  The walks of a turn's own, decided, took.
  The walks of a turn's own, decided, took.
  The walks of a turn's own, decided, took.
-/
import Derived.Test.YtaaaiggbnkeblaaGreatDoorMChoI
import Derived.Deep.DeepCutAuto
namespace Go.Proofs.YtaaaiggbnkeblaaGreatDoor
set_option linter.unusedSimpArgs false
set_option linter.unusedVariables false
open Go.RowKit

set_option maxRecDepth 100000 in
set_option maxHeartbeats 8000000 in
theorem took_wait (t : Nat) (s s' : TS) (L : List Let) (kd fr to' : Nat) (seq id0 ms0 bal old nid nms cut tk' : Int) (p8' q8' : Nat) (hb : (s.bal == 0) = false) (hl : bal = s.bal) (ha : s.asked = true) (hfr : fr < 64) (htk : bits .or .u64 s.taken (2 ^ fr) = tk')
    (hd : s.done = false) (hp : bits .and .u64 tk' 7 = p8') (hq : bits .andNot .u64 7 tk' = q8') (p8 : p8' < 8) (q8 : q8' < 8) (hr : decide (cnt8 q8' < cnt8 p8') = false)
    : Gives t s { s with taken := tk' } [] 0 41 #[.pointer (some ⟨t, 0, none⟩), .agg #[.int .i64 kd, .int .i64 fr, .int .i64 to', .int .u64 seq, .int .i64 0, .slice none 0 0, .int .u64 id0, .int .u64 ms0, .int .u64 bal, .int .u64 old, .int .u64 nid, .int .u64 nms, .int .u64 cut, .slice none 0 0, .slice none 0 0, .float .f64 0]] := by
  intro w h
  have hm := (Mod.refl [] w).alloc (.cells #[.int .i64 kd, .int .i64 fr, .int .i64 to', .int .u64 seq, .int .i64 0, .slice none 0 0, .int .u64 id0, .int .u64 ms0, .int .u64 bal, .int .u64 old, .int .u64 nid, .int .u64 nms, .int .u64 cut, .slice none 0 0, .slice none 0 0, .float .f64 0] 42)
  have HOWN := Lib.hid (show Calls Tryz.prog 82 #[.pointer (some ⟨t, 0, none⟩), .agg #[.int .i64 kd, .int .i64 fr, .int .i64 to', .int .u64 seq, .int .i64 0, .slice none 0 0, .int .u64 id0, .int .u64 ms0, .int .u64 bal, .int .u64 old, .int .u64 nid, .int .u64 nms, .int .u64 cut, .slice none 0 0, .slice none 0 0, .float .f64 0]] (w.alloc (.cells #[.int .i64 kd, .int .i64 fr, .int .i64 to', .int .u64 seq, .int .i64 0, .slice none 0 0, .int .u64 id0, .int .u64 ms0, .int .u64 bal, .int .u64 old, .int .u64 nid, .int .u64 nms, .int .u64 cut, .slice none 0 0, .slice none 0 0, .float .f64 0] 42)) _ from own_s t s ⟨kd, fr, to', seq, id0, ms0, bal, old, nid, nms, cut⟩ hb hl _ (h.mod0 hm))
  have HM := Lib.hid hm
  have HH := Lib.hid (h.mod0 hm)
  have htl : t ≠ w.heap.size := Nat.ne_of_lt h.1.lt
  have HROW := Lib.hid (heap_new w (.cells #[.int .i64 kd, .int .i64 fr, .int .i64 to', .int .u64 seq, .int .i64 0, .slice none 0 0, .int .u64 id0, .int .u64 ms0, .int .u64 bal, .int .u64 old, .int .u64 nid, .int .u64 nms, .int .u64 cut, .slice none 0 0, .slice none 0 0, .float .f64 0] 42))
  have HA := Lib.hid ha
  have HD := Lib.hid hd
  have HMJ := Lib.hid (major_is tk' 7 p8' q8' false hp hq p8 q8 hr)
  clear hp hq p8 q8 hr
  clear h hm hb hl ha hd
  go_enter Tryz.func41, Tryz.ntmps41
  go_wp2_with fail
  refine HOWN.out.mono ?_
  rintro _ w1 ⟨rfl, hM1⟩
  obtain ⟨p, hp⟩ : ∃ p, w.heap.size = p := ⟨_, rfl⟩
  have HROW1 := Lib.hid (row_mod hM1 HROW.out (by simp))
  rw [hp] at htl HROW1 ⊢
  have HM1 := Lib.hid (HM.out.trans hM1)
  have HH1 := Lib.hid (HH.out.mod0 hM1)
  clear hM1 HROW HM HH HOWN hp
  have k207 := HH1.out.1.k207
  rw [HA.out] at k207
  have k210 := HH1.out.1.k210
  have f210 := HH1.out.1.free 210
  obtain ⟨tk, hk⟩ : ∃ tk, s.taken = tk := ⟨_, rfl⟩
  rw [hk] at k210 htk
  clear hk
  obtain ⟨_, d1, _, _, _, _, _, _, _, _, _, _, _, _, _, _⟩ := let_cells HROW1.out
  go_wp2_with fail
  go_cut [] (fun wx => TurnAt wx t ({ s with taken := tk' } : TS).c ∧ Mod [t] w1 wx)
  case first =>
    go_region_with (go_at_call 33; refine (with_is tk tk' fr hfr htk _).mono ?_; rintro e w5 ⟨rfl, rfl⟩)
    all_goals go_wp2_with fail
    all_goals go_meet
    all_goals exact ⟨(HH1.out.1.s210 _).drew, ((Mod.refl [t] _).setCell (.inl (by simp)) _).drew⟩
  case rest =>
    obtain ⟨hT, hMx⟩ := hcut
    have k211 := hT.k211
    simp only at k211
    rw [HD.out] at k211
    have HX := Lib.hid hMx
    have HTX := Lib.hid (HH1.out.own hMx hT)
    have HMF := Lib.hid ((HM1.out.mono (T := [t]) (by simp)).trans hMx)
    clear hT hMx k207 k210 f210 d1 HM1 HH1
    have k210 := HTX.out.1.k210
    have k6 := HTX.out.1.k6
    simp only at k210
    go_wp2_with fail
    go_region_held3 (fun w' => w'.cell? ⟨t, 211, none⟩ = some (.bool false) ∧ w'.cell? ⟨t, 210, none⟩ = some (.int .u64 tk') ∧ w'.cell? ⟨t, 6, none⟩ = some (.int .u64 7)) (first | exact ⟨k211, k210, k6⟩) ((go_at_call 29; refine (HMJ.out _).mono ?_; rintro _ w5 ⟨rfl, rfl⟩))
    go_wp2_with fail
    go_ret2
    exact ⟨_, rfl, .none (HTX.out.mod0 (Mod.refl [] _).drew) HMF.out.drew⟩

end Go.Proofs.YtaaaiggbnkeblaaGreatDoor

namespace Go.Proofs.YtaaaiggbnkeblaaGreatDoor
set_option linter.unusedSimpArgs false
set_option linter.unusedVariables false
open Go.RowKit

set_option maxRecDepth 100000 in
set_option maxHeartbeats 8000000 in
theorem took_late (t : Nat) (s s' : TS) (L : List Let) (kd fr to' : Nat) (seq id0 ms0 bal old nid nms cut tk' : Int) (p8' q8' : Nat) (hb : (s.bal == 0) = false) (hl : bal = s.bal) (ha : s.asked = true) (hfr : fr < 64) (htk : bits .or .u64 s.taken (2 ^ fr) = tk')
    (hd : s.done = true)
    : Gives t s { s with taken := tk' } [] 0 41 #[.pointer (some ⟨t, 0, none⟩), .agg #[.int .i64 kd, .int .i64 fr, .int .i64 to', .int .u64 seq, .int .i64 0, .slice none 0 0, .int .u64 id0, .int .u64 ms0, .int .u64 bal, .int .u64 old, .int .u64 nid, .int .u64 nms, .int .u64 cut, .slice none 0 0, .slice none 0 0, .float .f64 0]] := by
  intro w h
  have hm := (Mod.refl [] w).alloc (.cells #[.int .i64 kd, .int .i64 fr, .int .i64 to', .int .u64 seq, .int .i64 0, .slice none 0 0, .int .u64 id0, .int .u64 ms0, .int .u64 bal, .int .u64 old, .int .u64 nid, .int .u64 nms, .int .u64 cut, .slice none 0 0, .slice none 0 0, .float .f64 0] 42)
  have HOWN := Lib.hid (show Calls Tryz.prog 82 #[.pointer (some ⟨t, 0, none⟩), .agg #[.int .i64 kd, .int .i64 fr, .int .i64 to', .int .u64 seq, .int .i64 0, .slice none 0 0, .int .u64 id0, .int .u64 ms0, .int .u64 bal, .int .u64 old, .int .u64 nid, .int .u64 nms, .int .u64 cut, .slice none 0 0, .slice none 0 0, .float .f64 0]] (w.alloc (.cells #[.int .i64 kd, .int .i64 fr, .int .i64 to', .int .u64 seq, .int .i64 0, .slice none 0 0, .int .u64 id0, .int .u64 ms0, .int .u64 bal, .int .u64 old, .int .u64 nid, .int .u64 nms, .int .u64 cut, .slice none 0 0, .slice none 0 0, .float .f64 0] 42)) _ from own_s t s ⟨kd, fr, to', seq, id0, ms0, bal, old, nid, nms, cut⟩ hb hl _ (h.mod0 hm))
  have HM := Lib.hid hm
  have HH := Lib.hid (h.mod0 hm)
  have htl : t ≠ w.heap.size := Nat.ne_of_lt h.1.lt
  have HROW := Lib.hid (heap_new w (.cells #[.int .i64 kd, .int .i64 fr, .int .i64 to', .int .u64 seq, .int .i64 0, .slice none 0 0, .int .u64 id0, .int .u64 ms0, .int .u64 bal, .int .u64 old, .int .u64 nid, .int .u64 nms, .int .u64 cut, .slice none 0 0, .slice none 0 0, .float .f64 0] 42))
  have HA := Lib.hid ha
  have HD := Lib.hid hd
  clear h hm hb hl ha hd
  go_enter Tryz.func41, Tryz.ntmps41
  go_wp2_with fail
  refine HOWN.out.mono ?_
  rintro _ w1 ⟨rfl, hM1⟩
  obtain ⟨p, hp⟩ : ∃ p, w.heap.size = p := ⟨_, rfl⟩
  have HROW1 := Lib.hid (row_mod hM1 HROW.out (by simp))
  rw [hp] at htl HROW1 ⊢
  have HM1 := Lib.hid (HM.out.trans hM1)
  have HH1 := Lib.hid (HH.out.mod0 hM1)
  clear hM1 HROW HM HH HOWN hp
  have k207 := HH1.out.1.k207
  rw [HA.out] at k207
  have k210 := HH1.out.1.k210
  have f210 := HH1.out.1.free 210
  obtain ⟨tk, hk⟩ : ∃ tk, s.taken = tk := ⟨_, rfl⟩
  rw [hk] at k210 htk
  clear hk
  obtain ⟨_, d1, _, _, _, _, _, _, _, _, _, _, _, _, _, _⟩ := let_cells HROW1.out
  go_wp2_with fail
  go_cut [] (fun wx => TurnAt wx t ({ s with taken := tk' } : TS).c ∧ Mod [t] w1 wx)
  case first =>
    go_region_with (go_at_call 33; refine (with_is tk tk' fr hfr htk _).mono ?_; rintro e w5 ⟨rfl, rfl⟩)
    all_goals go_wp2_with fail
    all_goals go_meet
    all_goals exact ⟨(HH1.out.1.s210 _).drew, ((Mod.refl [t] _).setCell (.inl (by simp)) _).drew⟩
  case rest =>
    obtain ⟨hT, hMx⟩ := hcut
    have k211 := hT.k211
    simp only at k211
    rw [HD.out] at k211
    have HX := Lib.hid hMx
    have HTX := Lib.hid (HH1.out.own hMx hT)
    have HMF := Lib.hid ((HM1.out.mono (T := [t]) (by simp)).trans hMx)
    clear hT hMx k207 k210 f210 d1 HM1 HH1
    go_wp2_with fail
    go_region
    all_goals
      go_wp2_with fail
      go_ret2
      exact ⟨_, rfl, .none (HTX.out.mod0 (Mod.refl [] _).drew) HMF.out.drew⟩

end Go.Proofs.YtaaaiggbnkeblaaGreatDoor

namespace Go.Proofs.YtaaaiggbnkeblaaGreatDoor
set_option linter.unusedSimpArgs false
set_option linter.unusedVariables false
open Go.RowKit

set_option maxRecDepth 100000 in
set_option maxHeartbeats 8000000 in
theorem took_done (t : Nat) (s s' : TS) (L : List Let) (kd fr to' : Nat) (seq id0 ms0 bal old nid nms cut tk' : Int) (p8' q8' : Nat) (hb : (s.bal == 0) = false) (hl : bal = s.bal) (ha : s.asked = true) (hfr : fr < 64) (htk : bits .or .u64 s.taken (2 ^ fr) = tk')
    (hd : s.done = false) (hp : bits .and .u64 tk' 7 = p8') (hq : bits .andNot .u64 7 tk' = q8') (p8 : p8' < 8) (q8 : q8' < 8) (hr : decide (cnt8 q8' < cnt8 p8') = true)
    (H : Gives1 t { s with taken := tk', done := true, vm := s.wm, vc := s.wc, told := true } s' L 85 #[.pointer (some ⟨t, 0, none⟩)])
    : Gives t s s' L 0 41 #[.pointer (some ⟨t, 0, none⟩), .agg #[.int .i64 kd, .int .i64 fr, .int .i64 to', .int .u64 seq, .int .i64 0, .slice none 0 0, .int .u64 id0, .int .u64 ms0, .int .u64 bal, .int .u64 old, .int .u64 nid, .int .u64 nms, .int .u64 cut, .slice none 0 0, .slice none 0 0, .float .f64 0]] := by
  intro w h
  have hm := (Mod.refl [] w).alloc (.cells #[.int .i64 kd, .int .i64 fr, .int .i64 to', .int .u64 seq, .int .i64 0, .slice none 0 0, .int .u64 id0, .int .u64 ms0, .int .u64 bal, .int .u64 old, .int .u64 nid, .int .u64 nms, .int .u64 cut, .slice none 0 0, .slice none 0 0, .float .f64 0] 42)
  have HOWN := Lib.hid (show Calls Tryz.prog 82 #[.pointer (some ⟨t, 0, none⟩), .agg #[.int .i64 kd, .int .i64 fr, .int .i64 to', .int .u64 seq, .int .i64 0, .slice none 0 0, .int .u64 id0, .int .u64 ms0, .int .u64 bal, .int .u64 old, .int .u64 nid, .int .u64 nms, .int .u64 cut, .slice none 0 0, .slice none 0 0, .float .f64 0]] (w.alloc (.cells #[.int .i64 kd, .int .i64 fr, .int .i64 to', .int .u64 seq, .int .i64 0, .slice none 0 0, .int .u64 id0, .int .u64 ms0, .int .u64 bal, .int .u64 old, .int .u64 nid, .int .u64 nms, .int .u64 cut, .slice none 0 0, .slice none 0 0, .float .f64 0] 42)) _ from own_s t s ⟨kd, fr, to', seq, id0, ms0, bal, old, nid, nms, cut⟩ hb hl _ (h.mod0 hm))
  have HM := Lib.hid hm
  have HH := Lib.hid (h.mod0 hm)
  have htl : t ≠ w.heap.size := Nat.ne_of_lt h.1.lt
  have HROW := Lib.hid (heap_new w (.cells #[.int .i64 kd, .int .i64 fr, .int .i64 to', .int .u64 seq, .int .i64 0, .slice none 0 0, .int .u64 id0, .int .u64 ms0, .int .u64 bal, .int .u64 old, .int .u64 nid, .int .u64 nms, .int .u64 cut, .slice none 0 0, .slice none 0 0, .float .f64 0] 42))
  have HA := Lib.hid ha
  have HD := Lib.hid hd
  have HMJ := Lib.hid (major_is tk' 7 p8' q8' true hp hq p8 q8 hr)
  clear hp hq p8 q8 hr
  have HS := Lib.hid H
  clear H
  clear h hm hb hl ha hd
  go_enter Tryz.func41, Tryz.ntmps41
  go_wp2_with fail
  refine HOWN.out.mono ?_
  rintro _ w1 ⟨rfl, hM1⟩
  obtain ⟨p, hp⟩ : ∃ p, w.heap.size = p := ⟨_, rfl⟩
  have HROW1 := Lib.hid (row_mod hM1 HROW.out (by simp))
  rw [hp] at htl HROW1 ⊢
  have HM1 := Lib.hid (HM.out.trans hM1)
  have HH1 := Lib.hid (HH.out.mod0 hM1)
  clear hM1 HROW HM HH HOWN hp
  have k207 := HH1.out.1.k207
  rw [HA.out] at k207
  have k210 := HH1.out.1.k210
  have f210 := HH1.out.1.free 210
  obtain ⟨tk, hk⟩ : ∃ tk, s.taken = tk := ⟨_, rfl⟩
  rw [hk] at k210 htk
  clear hk
  obtain ⟨_, d1, _, _, _, _, _, _, _, _, _, _, _, _, _, _⟩ := let_cells HROW1.out
  go_wp2_with fail
  go_cut [] (fun wx => TurnAt wx t ({ s with taken := tk' } : TS).c ∧ Mod [t] w1 wx)
  case first =>
    go_region_with (go_at_call 33; refine (with_is tk tk' fr hfr htk _).mono ?_; rintro e w5 ⟨rfl, rfl⟩)
    all_goals go_wp2_with fail
    all_goals go_meet
    all_goals exact ⟨(HH1.out.1.s210 _).drew, ((Mod.refl [t] _).setCell (.inl (by simp)) _).drew⟩
  case rest =>
    obtain ⟨hT, hMx⟩ := hcut
    have k211 := hT.k211
    simp only at k211
    rw [HD.out] at k211
    have HX := Lib.hid hMx
    have HTX := Lib.hid (HH1.out.own hMx hT)
    have HMF := Lib.hid ((HM1.out.mono (T := [t]) (by simp)).trans hMx)
    clear hT hMx k207 k210 f210 d1 HM1 HH1
    have k210 := HTX.out.1.k210
    have k6 := HTX.out.1.k6
    simp only at k210
    go_wp2_with fail
    go_region_held3 (fun w' => w'.cell? ⟨t, 211, none⟩ = some (.bool false) ∧ w'.cell? ⟨t, 210, none⟩ = some (.int .u64 tk') ∧ w'.cell? ⟨t, 6, none⟩ = some (.int .u64 7)) (first | exact ⟨k211, k210, k6⟩) ((go_at_call 29; refine (HMJ.out _).mono ?_; rintro _ w5 ⟨rfl, rfl⟩))
    have HTX3 := Lib.hid (HTX.out.mod0 (Mod.refl [] _).drew)
    have HMF3 := Lib.hid HMF.out.drew
    clear HTX HMF HX k211 k210 k6
    generalize wc.drew = W3 at HTX3 HMF3 ⊢
    have hTD := HTX3.out.1
    have k208 := hTD.k208
    have k209 := hTD.k209
    have k211 := hTD.k211
    have k212 := hTD.k212
    have k213 := hTD.k213
    have k214 := hTD.k214
    simp only at k208 k209 k211 k212 k213 k214
    have f211 := hTD.free 211
    have f212 := hTD.free 212
    have f213 := hTD.free 213
    have f214 := hTD.free 214
    have HTD := Lib.hid hTD
    clear hTD
    go_wp2_with fail
    have hT9 := (((HTD.out.s211 true).s212 s.wm).s213 s.wc).s214 true
    have hM9 : Mod [t] W3 ((((W3.setCell ⟨t, 211, none⟩ (.bool true)).setCell ⟨t, 212, none⟩ (.int .u64 s.wm)).setCell ⟨t, 213, none⟩ (.int .u64 s.wc)).setCell ⟨t, 214, none⟩ (.bool true)) := ((((Mod.refl [t] _).setCell (.inl (by simp)) _).setCell (.inl (by simp)) _).setCell (.inl (by simp)) _).setCell (.inl (by simp)) _
    have HE9 := Lib.hid (HS.out _ (HTX3.out.own hM9 hT9))
    have HM9 := Lib.hid (HMF3.out.trans hM9)
    clear hT9 hM9
    refine HE9.out.mono ?_
    rintro _ w9 ⟨v, rfl, hO⟩
    have HO := Lib.hid (hO.back HM9.out)
    clear hO
    go_wp2_with fail
    go_ret2
    exact ⟨v, rfl, HO.out⟩

end Go.Proofs.YtaaaiggbnkeblaaGreatDoor
