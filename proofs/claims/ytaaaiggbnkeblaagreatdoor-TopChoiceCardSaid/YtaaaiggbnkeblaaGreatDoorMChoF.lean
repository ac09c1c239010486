/-
  The walks of a turn's answer and settled.
  The walks of a turn's settled, accepted, decided.
  The walk of a turn's prepared.
-/
import Derived.Test.YtaaaiggbnkeblaaGreatDoorMChoE
import Derived.Deep.DeepCutAuto
namespace Go.Proofs.YtaaaiggbnkeblaaGreatDoor
set_option linter.unusedSimpArgs false
set_option linter.unusedVariables false
open Go.RowKit

set_option maxRecDepth 100000 in
set_option maxHeartbeats 4000000 in
theorem answer_other (t : Nat) (s : TS) (l : Let) (tq : Nat) (hne : tq ≠ s.me) :
    Gives1 t s s [(l.from_ s.me 4 7).to_ tq] 78 #[.pointer (some ⟨t, 0, none⟩), .int .i64 tq, .agg l.v] := by
  intro w h
  have c4 := h.1.k4
  have c5 := h.1.k5
  have c6 := h.1.k6
  obtain ⟨kd, fr, to', seq, id0, ms0, bal, old, nid, nms, cut⟩ := l
  unfold Let.v
  simp only
  have htl : t ≠ w.heap.size := Nat.ne_of_lt h.1.lt
  obtain ⟨me, hme⟩ : ∃ me, s.me = me := ⟨_, rfl⟩
  rw [hme] at c4 hne ⊢
  have hq1 : ((tq : Int) == (me : Int)) = false := by simp; omega
  have hq2 : ((tq : Int) != (me : Int)) = true := by simp; omega
  have HH := Lib.hid h
  clear h hme hne
  go_enter Tryz.func78, Tryz.ntmps78
  go_wp2_with fail
  have hm := (Mod.refl [] w).alloc (.cells #[.int .i64 kd, .int .i64 fr, .int .i64 to', .int .u64 seq, .int .i64 0, .slice none 0 0, .int .u64 id0, .int .u64 ms0, .int .u64 bal, .int .u64 old, .int .u64 nid, .int .u64 nms, .int .u64 cut, .slice none 0 0, .slice none 0 0, .float .f64 0] 42)
  replace c4 := hm.at c4 (by simp)
  replace c5 := hm.at c5 (by simp)
  replace c6 := hm.at c6 (by simp)
  have HM := Lib.hid hm
  have HROW := Lib.hid (heap_new w (.cells #[.int .i64 kd, .int .i64 fr, .int .i64 to', .int .u64 seq, .int .i64 0, .slice none 0 0, .int .u64 id0, .int .u64 ms0, .int .u64 bal, .int .u64 old, .int .u64 nid, .int .u64 nms, .int .u64 cut, .slice none 0 0, .slice none 0 0, .float .f64 0] 42))
  clear hm
  generalize w.alloc (.cells #[.int .i64 kd, .int .i64 fr, .int .i64 to', .int .u64 seq, .int .i64 0, .slice none 0 0, .int .u64 id0, .int .u64 ms0, .int .u64 bal, .int .u64 old, .int .u64 nid, .int .u64 nms, .int .u64 cut, .slice none 0 0, .slice none 0 0, .float .f64 0] 42) = W at c4 c5 c6 HM HROW ⊢
  obtain ⟨p, hp⟩ : ∃ p, w.heap.size = p := ⟨_, rfl⟩
  rw [hp] at HROW htl ⊢
  have HPE := Lib.hid hp
  clear hp
  obtain ⟨_, b1, b2, _, _, _, b6, b7, _, _, _, _, _, _, _, _⟩ := let_cells HROW.out
  have f1 := free_in (j := 1) HROW.out
  have f2 := free_in (j := 2) HROW.out
  have f6 := free_in (j := 6) HROW.out
  have f7 := free_in (j := 7) HROW.out
  go_region
  have hrow : ((((W.setCell ⟨p, 1, none⟩ (.int .i64 me)).setCell ⟨p, 2, none⟩ (.int .i64 tq)).setCell ⟨p, 6, none⟩ (.int .u64 4)).setCell ⟨p, 7, none⟩ (.int .u64 7)).drew.heap[p]? = some (.cells #[.int .i64 kd, .int .i64 me, .int .i64 tq, .int .u64 seq, .int .i64 0, .slice none 0 0, .int .u64 4, .int .u64 7, .int .u64 bal, .int .u64 old, .int .u64 nid, .int .u64 nms, .int .u64 cut, .slice none 0 0, .slice none 0 0, .float .f64 0] 42 (0, 0)) := by
    show (((((W.setCell ⟨p, 1, none⟩ (.int .i64 me)).setCell ⟨p, 2, none⟩ (.int .i64 tq)).setCell ⟨p, 6, none⟩ (.int .u64 4)).setCell ⟨p, 7, none⟩ (.int .u64 7))).heap[p]? = _
    simp [World.setCell, Array.getElem?_modify, HROW.out]
  have hM2 : Mod [p] W ((((W.setCell ⟨p, 1, none⟩ (.int .i64 me)).setCell ⟨p, 2, none⟩ (.int .i64 tq)).setCell ⟨p, 6, none⟩ (.int .u64 4)).setCell ⟨p, 7, none⟩ (.int .u64 7)).drew := (((((Mod.refl [p] W).setCell (.inl (by simp)) _).setCell (.inl (by simp)) _).setCell (.inl (by simp)) _).setCell (.inl (by simp)) _).drew
  replace c4 := hM2.at c4 (by simpa using htl)
  have HM2 := Lib.hid (HM.out.step hM2 (fun x hx => .inr (by simp at hx; have := HPE.out; omega)))
  have HR2 := Lib.hid hrow
  clear hM2 b1 b2 b6 b7 f1 f2 f6 f7 c5 c6 HROW HM
  generalize ((((W.setCell ⟨p, 1, none⟩ (.int .i64 me)).setCell ⟨p, 2, none⟩ (.int .i64 tq)).setCell ⟨p, 6, none⟩ (.int .u64 4)).setCell ⟨p, 7, none⟩ (.int .u64 7)).drew = W2 at c4 hrow HM2 HR2 ⊢
  obtain ⟨d0, d1, d2, d3, d4, d5, d6, d7, d8, d9, d10, d11, d12, d13, d14, d15⟩ := let_cells hrow
  clear hrow
  go_wp2_with fail
  go_ret
  exact ⟨_, rfl, lets_one (heap_new W2 _) HM2.out.size, by simp, HH.out.mod0 (HM2.out.alloc _), (HM2.out.alloc _).mono (by simp)⟩

set_option maxRecDepth 100000 in
set_option maxHeartbeats 4000000 in
theorem answer_self (t : Nat) (s s' : TS) (L : List Let) (l : Let) (er : Int) (hre : s'.reach = s.reach) (H : Gives t s s' L er 9 #[.pointer (some ⟨t, 0, none⟩), .agg ((l.from_ s.me 4 7).to_ s.me).v, .int .u64 s.reach]) :
    Gives1 t s s' L 78 #[.pointer (some ⟨t, 0, none⟩), .int .i64 s.me, .agg l.v] := by
  intro w h
  have c4 := h.1.k4
  have c5 := h.1.k5
  have c6 := h.1.k6
  have c8 := h.1.k8
  obtain ⟨kd, fr, to', seq, id0, ms0, bal, old, nid, nms, cut⟩ := l
  unfold Let.from_ Let.to_ Let.v at H
  unfold Let.v
  simp only at H ⊢
  have htl : t ≠ w.heap.size := Nat.ne_of_lt h.1.lt
  obtain ⟨rc, hrc⟩ : ∃ rc, s.reach = rc := ⟨_, rfl⟩
  obtain ⟨me, hme⟩ : ∃ me, s.me = me := ⟨_, rfl⟩
  rw [hme] at c4 H ⊢
  rw [hrc] at c8 H hre
  obtain ⟨tq, hto⟩ : ∃ tq, me = tq := ⟨_, rfl⟩
  have hq1 : ((tq : Int) == (me : Int)) = true := by simp; omega
  have hq2 : ((tq : Int) != (me : Int)) = false := by simp; omega
  rw [show (Value.int .i64 (me : Int)) = .int .i64 (tq : Int) by rw [hto]]
  have H8 := Lib.hid c8
  have HH := Lib.hid h
  have HHE := Lib.hid H
  have HTO := Lib.hid hto
  have HRE := Lib.hid hre
  clear h hme hrc hto H hre
  go_enter Tryz.func78, Tryz.ntmps78
  go_wp2_with fail
  have hm := (Mod.refl [] w).alloc (.cells #[.int .i64 kd, .int .i64 fr, .int .i64 to', .int .u64 seq, .int .i64 0, .slice none 0 0, .int .u64 id0, .int .u64 ms0, .int .u64 bal, .int .u64 old, .int .u64 nid, .int .u64 nms, .int .u64 cut, .slice none 0 0, .slice none 0 0, .float .f64 0] 42)
  replace c4 := hm.at c4 (by simp)
  replace c5 := hm.at c5 (by simp)
  replace c6 := hm.at c6 (by simp)
  have HM := Lib.hid hm
  have HROW := Lib.hid (heap_new w (.cells #[.int .i64 kd, .int .i64 fr, .int .i64 to', .int .u64 seq, .int .i64 0, .slice none 0 0, .int .u64 id0, .int .u64 ms0, .int .u64 bal, .int .u64 old, .int .u64 nid, .int .u64 nms, .int .u64 cut, .slice none 0 0, .slice none 0 0, .float .f64 0] 42))
  clear hm
  generalize w.alloc (.cells #[.int .i64 kd, .int .i64 fr, .int .i64 to', .int .u64 seq, .int .i64 0, .slice none 0 0, .int .u64 id0, .int .u64 ms0, .int .u64 bal, .int .u64 old, .int .u64 nid, .int .u64 nms, .int .u64 cut, .slice none 0 0, .slice none 0 0, .float .f64 0] 42) = W at c4 c5 c6 HM HROW ⊢
  obtain ⟨p, hp⟩ : ∃ p, w.heap.size = p := ⟨_, rfl⟩
  rw [hp] at HROW htl ⊢
  have HPE := Lib.hid hp
  clear hp
  obtain ⟨_, b1, b2, _, _, _, b6, b7, _, _, _, _, _, _, _, _⟩ := let_cells HROW.out
  have f1 := free_in (j := 1) HROW.out
  have f2 := free_in (j := 2) HROW.out
  have f6 := free_in (j := 6) HROW.out
  have f7 := free_in (j := 7) HROW.out
  go_region
  have hrow : ((((W.setCell ⟨p, 1, none⟩ (.int .i64 me)).setCell ⟨p, 2, none⟩ (.int .i64 tq)).setCell ⟨p, 6, none⟩ (.int .u64 4)).setCell ⟨p, 7, none⟩ (.int .u64 7)).drew.heap[p]? = some (.cells #[.int .i64 kd, .int .i64 me, .int .i64 tq, .int .u64 seq, .int .i64 0, .slice none 0 0, .int .u64 4, .int .u64 7, .int .u64 bal, .int .u64 old, .int .u64 nid, .int .u64 nms, .int .u64 cut, .slice none 0 0, .slice none 0 0, .float .f64 0] 42 (0, 0)) := by
    show (((((W.setCell ⟨p, 1, none⟩ (.int .i64 me)).setCell ⟨p, 2, none⟩ (.int .i64 tq)).setCell ⟨p, 6, none⟩ (.int .u64 4)).setCell ⟨p, 7, none⟩ (.int .u64 7))).heap[p]? = _
    simp [World.setCell, Array.getElem?_modify, HROW.out]
  have hM2 : Mod [p] W ((((W.setCell ⟨p, 1, none⟩ (.int .i64 me)).setCell ⟨p, 2, none⟩ (.int .i64 tq)).setCell ⟨p, 6, none⟩ (.int .u64 4)).setCell ⟨p, 7, none⟩ (.int .u64 7)).drew := (((((Mod.refl [p] W).setCell (.inl (by simp)) _).setCell (.inl (by simp)) _).setCell (.inl (by simp)) _).setCell (.inl (by simp)) _).drew
  replace c4 := hM2.at c4 (by simpa using htl)
  have HM2 := Lib.hid (HM.out.step hM2 (fun x hx => .inr (by simp at hx; have := HPE.out; omega)))
  have HR2 := Lib.hid hrow
  clear hM2 b1 b2 b6 b7 f1 f2 f6 f7 c5 c6 HROW HM
  generalize ((((W.setCell ⟨p, 1, none⟩ (.int .i64 me)).setCell ⟨p, 2, none⟩ (.int .i64 tq)).setCell ⟨p, 6, none⟩ (.int .u64 4)).setCell ⟨p, 7, none⟩ (.int .u64 7)).drew = W2 at c4 hrow HM2 HR2 ⊢
  obtain ⟨d0, d1, d2, d3, d4, d5, d6, d7, d8, d9, d10, d11, d12, d13, d14, d15⟩ := let_cells hrow
  clear hrow
  have c8 := HM2.out.at H8.out (by simp)
  go_wp2_with fail
  have hto := HTO.out
  subst hto
  have HE2 := Lib.hid ((HH.out.mod0 HM2.out).mod0 (Mod.refl [] _).drew)
  go_region_held3 (fun w' => w'.cell? ⟨p, 0, none⟩ = some (.int .i64 kd) ∧ w'.cell? ⟨p, 1, none⟩ = some (.int .i64 me) ∧ w'.cell? ⟨p, 2, none⟩ = some (.int .i64 me) ∧ w'.cell? ⟨p, 3, none⟩ = some (.int .u64 seq) ∧ w'.cell? ⟨p, 4, none⟩ = some (.int .i64 0) ∧ w'.cell? ⟨p, 5, none⟩ = some (.slice none 0 0) ∧ w'.cell? ⟨p, 6, none⟩ = some (.int .u64 4) ∧ w'.cell? ⟨p, 7, none⟩ = some (.int .u64 7) ∧ w'.cell? ⟨p, 8, none⟩ = some (.int .u64 bal) ∧ w'.cell? ⟨p, 9, none⟩ = some (.int .u64 old) ∧ w'.cell? ⟨p, 10, none⟩ = some (.int .u64 nid) ∧ w'.cell? ⟨p, 11, none⟩ = some (.int .u64 nms) ∧ w'.cell? ⟨p, 12, none⟩ = some (.int .u64 cut) ∧ w'.cell? ⟨p, 13, none⟩ = some (.slice none 0 0) ∧ w'.cell? ⟨p, 14, none⟩ = some (.slice none 0 0) ∧ w'.cell? ⟨p, 15, none⟩ = some (.float .f64 0) ∧ w'.cell? ⟨t, 8, none⟩ = some (.int .u64 rc)) (first | exact ⟨d0, d1, d2, d3, d4, d5, d6, d7, d8, d9, d10, d11, d12, d13, d14, d15, c8⟩ | exact ⟨HO5.out.2.2.2.at d0 (by simpa using htl.symm), HO5.out.2.2.2.at d1 (by simpa using htl.symm), HO5.out.2.2.2.at d2 (by simpa using htl.symm), HO5.out.2.2.2.at d3 (by simpa using htl.symm), HO5.out.2.2.2.at d4 (by simpa using htl.symm), HO5.out.2.2.2.at d5 (by simpa using htl.symm), HO5.out.2.2.2.at d6 (by simpa using htl.symm), HO5.out.2.2.2.at d7 (by simpa using htl.symm), HO5.out.2.2.2.at d8 (by simpa using htl.symm), HO5.out.2.2.2.at d9 (by simpa using htl.symm), HO5.out.2.2.2.at d10 (by simpa using htl.symm), HO5.out.2.2.2.at d11 (by simpa using htl.symm), HO5.out.2.2.2.at d12 (by simpa using htl.symm), HO5.out.2.2.2.at d13 (by simpa using htl.symm), HO5.out.2.2.2.at d14 (by simpa using htl.symm), HO5.out.2.2.2.at d15 (by simpa using htl.symm), k8⟩) ((go_at_call 9; refine (HHE.out _ HE2.out).mono ?_; rintro _ w5 ⟨v, rfl, hO⟩; have HO5 := Lib.hid hO; have k8 := hO.2.2.1.1.k8; rw [HRE.out] at k8; clear hO))
  have HO6 := Lib.hid (HO5.out.back0 HM2.out.drew)
  go_wp2_with fail
  go_ret
  exact ⟨v, rfl, HO6.out⟩

end Go.Proofs.YtaaaiggbnkeblaaGreatDoor

namespace Go.Proofs.YtaaaiggbnkeblaaGreatDoor
set_option linter.unusedSimpArgs false
set_option linter.unusedVariables false
open Go.RowKit

set_option maxRecDepth 100000 in
set_option maxHeartbeats 4000000 in
theorem settled_ok (t : Nat) (s s' : TS) (L : List Let) (l : Let) (tq : Nat) (H : Gives1 t s s' L 78 #[.pointer (some ⟨t, 0, none⟩), .int .i64 tq, .agg l.v]) :
    Gives t s s' L 0 81 #[.pointer (some ⟨t, 0, none⟩), .int .i64 tq, .int .i64 0, .agg l.v] := by
  intro w h
  obtain ⟨kd, fr, to', seq, id0, ms0, bal, old, nid, nms, cut⟩ := l
  unfold Let.v at H ⊢
  simp only at H ⊢
  have HA := Lib.hid (H _ (h.mod0 ((Mod.refl [] w).alloc (.cells #[.int .i64 kd, .int .i64 fr, .int .i64 to', .int .u64 seq, .int .i64 0, .slice none 0 0, .int .u64 id0, .int .u64 ms0, .int .u64 bal, .int .u64 old, .int .u64 nid, .int .u64 nms, .int .u64 cut, .slice none 0 0, .slice none 0 0, .float .f64 0] 42))))
  have HM := Lib.hid ((Mod.refl [] w).alloc (.cells #[.int .i64 kd, .int .i64 fr, .int .i64 to', .int .u64 seq, .int .i64 0, .slice none 0 0, .int .u64 id0, .int .u64 ms0, .int .u64 bal, .int .u64 old, .int .u64 nid, .int .u64 nms, .int .u64 cut, .slice none 0 0, .slice none 0 0, .float .f64 0] 42))
  clear H h
  go_enter Tryz.func81, Tryz.ntmps81
  go_wp2_with fail
  refine HA.out.mono ?_
  rintro _ w1 ⟨v, rfl, hO⟩
  have HO := Lib.hid (hO.back0 HM.out)
  clear hO
  go_wp2_with fail
  go_ret2
  exact ⟨v, rfl, HO.out⟩

set_option maxRecDepth 100000 in
set_option maxHeartbeats 4000000 in
theorem accepted_ok (t : Nat) (s s' : TS) (L : List Let) (l : Let) (hb : (l.bal == 0) = false) (ht : decide (l.bal < s.top) = false) (hfr : l.from' < 64)
    (H : Gives t { s with top := l.bal, old := l.bal, lm := l.nms, lc := l.cut } s' L 0 81 #[.pointer (some ⟨t, 0, none⟩), .int .i64 l.from', .int .i64 0, .agg (Let.v ⟨7, 0, 0, 0, 0, 0, l.bal, 0, 0, 0, 0⟩)]) :
    Gives t s s' L 0 40 #[.pointer (some ⟨t, 0, none⟩), .agg l.v] := by
  intro w h
  obtain ⟨kd, fr, to', seq, id0, ms0, bal, old, nid, nms, cut⟩ := l
  unfold Let.v at H ⊢
  simp only at H hb ht hfr ⊢
  have hm := (Mod.refl [] w).alloc (.cells #[.int .i64 kd, .int .i64 fr, .int .i64 to', .int .u64 seq, .int .i64 0, .slice none 0 0, .int .u64 id0, .int .u64 ms0, .int .u64 bal, .int .u64 old, .int .u64 nid, .int .u64 nms, .int .u64 cut, .slice none 0 0, .slice none 0 0, .float .f64 0] 42)
  have HM := Lib.hid hm
  have HH := Lib.hid (h.mod0 hm)
  have HS := Lib.hid H
  have HB := Lib.hid (And.intro hb ht)
  have htl : t ≠ w.heap.size := Nat.ne_of_lt h.1.lt
  have HROW := Lib.hid (heap_new w (.cells #[.int .i64 kd, .int .i64 fr, .int .i64 to', .int .u64 seq, .int .i64 0, .slice none 0 0, .int .u64 id0, .int .u64 ms0, .int .u64 bal, .int .u64 old, .int .u64 nid, .int .u64 nms, .int .u64 cut, .slice none 0 0, .slice none 0 0, .float .f64 0] 42))
  clear H h hm hb ht hfr
  go_enter Tryz.func40, Tryz.ntmps40
  go_wp2_with fail
  generalize w.alloc (.cells #[.int .i64 kd, .int .i64 fr, .int .i64 to', .int .u64 seq, .int .i64 0, .slice none 0 0, .int .u64 id0, .int .u64 ms0, .int .u64 bal, .int .u64 old, .int .u64 nid, .int .u64 nms, .int .u64 cut, .slice none 0 0, .slice none 0 0, .float .f64 0] 42) = W at HM HH HROW ⊢
  obtain ⟨p, hp⟩ : ∃ p, w.heap.size = p := ⟨_, rfl⟩
  rw [hp] at HROW htl ⊢
  clear hp
  obtain ⟨d0, d1, d2, d3, d4, d5, d6, d7, d8, d9, d10, d11, d12, d13, d14, d15⟩ := let_cells HROW.out
  have HA := Lib.hid (show AccAt W t s.top s.old s.lm s.lc from ⟨HH.out.1.k0, HH.out.1.k1, HH.out.1.k2, HH.out.1.k3, HH.out.1.free⟩)
  go_region_held3 (fun w' => w'.cell? ⟨p, 8, none⟩ = some (.int .u64 bal) ∧ w'.cell? ⟨p, 11, none⟩ = some (.int .u64 nms) ∧ w'.cell? ⟨p, 12, none⟩ = some (.int .u64 cut)) (first | exact ⟨d8, d11, d12⟩ | exact ⟨HM5.out.at d8 (by simpa using htl.symm), HM5.out.at d11 (by simpa using htl.symm), HM5.out.at d12 (by simpa using htl.symm)⟩) ((go_at_call 84; refine (accept_is t bal s.top s.old s.lm s.lc nms cut HB.out.1 HB.out.2 _ (HA.out.mod (Mod.refl [] _).drew (by simp))).mono ?_; rintro e w5 ⟨rfl, hA5, hM5, hK5⟩; have HM5 := Lib.hid ((Mod.refl [t] W).drew.trans hM5); have HA5 := Lib.hid (And.intro hA5 hK5); clear hM5 hA5 hK5))
  obtain ⟨hA5, hK5⟩ := HA5.out
  have hT5 := HH.out.own HM5.out (HH.out.1.acc hA5 hK5)
  have e1 := HM5.out.at d1 (by simpa using htl.symm)
  have e8 := HM5.out.at d8 (by simpa using htl.symm)
  have HT5 := Lib.hid (HS.out _ hT5)
  clear hT5 hA5 hK5 d0 d1 d2 d3 d4 d5 d6 d7 d8 d9 d10 d11 d12 d13 d14 d15
  go_wp2_with fail
  refine HT5.out.mono ?_
  rintro _ w6 ⟨v, rfl, hO⟩
  have HO := Lib.hid ((hO.back HM5.out).back0 HM.out)
  clear hO
  go_wp2_with fail
  go_ret2
  exact ⟨v, rfl, HO.out⟩

end Go.Proofs.YtaaaiggbnkeblaaGreatDoor

namespace Go.Proofs.YtaaaiggbnkeblaaGreatDoor
set_option linter.unusedSimpArgs false
set_option linter.unusedVariables false
open Go.RowKit

set_option maxRecDepth 100000 in
set_option maxHeartbeats 4000000 in
theorem prepared_ok (t : Nat) (s s' : TS) (L : List Let) (l : Let) (hb : (l.bal == 0) = false) (ht : decide (l.bal < s.top) = false) (ho : s.old = 0 ∧ s.lm = 0 ∧ s.lc = 0) (hre : s'.reach = s.reach)
    (H : Gives t { s with top := l.bal } s' L 0 81 #[.pointer (some ⟨t, 0, none⟩), .int .i64 l.from', .int .i64 0, .agg (Let.v ⟨5, 0, 0, s.reach, 0, 0, l.bal, 0, 0, 0, 0⟩)]) :
    Gives t s s' L 0 38 #[.pointer (some ⟨t, 0, none⟩), .agg l.v] := by
  intro w h
  obtain ⟨kd, fr, to', seq, id0, ms0, bal, old, nid, nms, cut⟩ := l
  unfold Let.v at H ⊢
  simp only at H hb ht ⊢
  have hm := (Mod.refl [] w).alloc (.cells #[.int .i64 kd, .int .i64 fr, .int .i64 to', .int .u64 seq, .int .i64 0, .slice none 0 0, .int .u64 id0, .int .u64 ms0, .int .u64 bal, .int .u64 old, .int .u64 nid, .int .u64 nms, .int .u64 cut, .slice none 0 0, .slice none 0 0, .float .f64 0] 42)
  have HM := Lib.hid hm
  have HH := Lib.hid (h.mod0 hm)
  have HS := Lib.hid H
  have HB := Lib.hid (And.intro hb ht)
  have htl : t ≠ w.heap.size := Nat.ne_of_lt h.1.lt
  have HROW := Lib.hid (heap_new w (.cells #[.int .i64 kd, .int .i64 fr, .int .i64 to', .int .u64 seq, .int .i64 0, .slice none 0 0, .int .u64 id0, .int .u64 ms0, .int .u64 bal, .int .u64 old, .int .u64 nid, .int .u64 nms, .int .u64 cut, .slice none 0 0, .slice none 0 0, .float .f64 0] 42))
  have HO0 := Lib.hid ho
  have HRE := Lib.hid hre
  clear H h hm hb ht ho hre
  go_enter Tryz.func38, Tryz.ntmps38
  go_wp2_with fail
  generalize w.alloc (.cells #[.int .i64 kd, .int .i64 fr, .int .i64 to', .int .u64 seq, .int .i64 0, .slice none 0 0, .int .u64 id0, .int .u64 ms0, .int .u64 bal, .int .u64 old, .int .u64 nid, .int .u64 nms, .int .u64 cut, .slice none 0 0, .slice none 0 0, .float .f64 0] 42) = W at HM HH HROW ⊢
  obtain ⟨p, hp⟩ : ∃ p, w.heap.size = p := ⟨_, rfl⟩
  rw [hp] at HROW htl ⊢
  clear hp
  obtain ⟨d0, d1, d2, d3, d4, d5, d6, d7, d8, d9, d10, d11, d12, d13, d14, d15⟩ := let_cells HROW.out
  have HA := Lib.hid (show AccAt W t s.top s.old s.lm s.lc from ⟨HH.out.1.k0, HH.out.1.k1, HH.out.1.k2, HH.out.1.k3, HH.out.1.free⟩)
  have hct : W.heap.size ≠ t := fun e => by have := HH.out.1.lt; omega
  have hpW : p < W.heap.size := (Array.getElem?_eq_some_iff.1 HROW.out).1
  have hz := heap_new W (.cells #[.int .u64 0, .int .u64 0, .int .u64 0] 85)
  have HZ := Lib.hid (show ((W.alloc (.cells #[.int .u64 0, .int .u64 0, .int .u64 0] 85)).drew).heap[W.heap.size]? = some (.cells #[.int .u64 0, .int .u64 0, .int .u64 0] 85 (0, 0)) from hz)
  have HPW := Lib.hid hpW
  clear hz hpW
  go_cut [6, 7] (fun s6 s7 wx => ∃ c, s6 = .pointer (some ⟨c, 0, none⟩) ∧ s7 = .int .i64 0 ∧ c ≠ t ∧ wx.heap[c]? = some (.cells #[.int .u64 s.old, .int .u64 s.lm, .int .u64 s.lc] 85 (0, 0)) ∧ TurnAt wx t ({ s with top := bal } : TS).c ∧ Mod [t] W wx)
  case first =>
    go_region_held3 (fun w' => w'.cell? ⟨p, 8, none⟩ = some (.int .u64 bal)) (first | exact d8 | exact HM5.out.at d8 (by simpa using htl.symm) | exact (HM5.out.alloc _).at d8 (by simpa using htl.symm) | exact (((HM5.out.setCell (.inr (Nat.le_refl _)) _).setCell (.inr (Nat.le_refl _)) _).setCell (.inr (Nat.le_refl _)) _).at d8 (by simpa using htl.symm) | go_keep) (first | (go_at_call 80; refine (prepare_is t bal s.top s.old s.lm s.lc HB.out.1 HB.out.2 W.drew (HA.out.mod (Mod.refl [] _).drew (by simp))).mono ?_; rintro e w5 ⟨rfl, hA5, hM5, hK5⟩; have HM5 := Lib.hid ((Mod.refl [t] W).drew.trans hM5); have HA5 := Lib.hid (And.intro hA5 hK5); clear hM5 hA5 hK5) | (go_at_call 80; refine (prepare_is t bal s.top s.old s.lm s.lc HB.out.1 HB.out.2 (W.alloc (.cells #[.int .u64 0, .int .u64 0, .int .u64 0] 85)).drew (HA.out.mod ((Mod.refl [] _).alloc _).drew (by simp))).mono ?_; rintro e w5 ⟨rfl, hA5, hM5, hK5⟩; have HM5 := Lib.hid (((Mod.refl [t] W).alloc (.cells #[.int .u64 0, .int .u64 0, .int .u64 0] 85)).drew.trans hM5); have HA5 := Lib.hid (And.intro hA5 hK5); have hrz := row_mod hM5 HZ.out (by simpa using hct); have z0 := cell_in hrz (show (#[Value.int .u64 0, .int .u64 0, .int .u64 0] : Array Value)[0]? = some (.int .u64 0) from rfl); have z1 := cell_in hrz (show (#[Value.int .u64 0, .int .u64 0, .int .u64 0] : Array Value)[1]? = some (.int .u64 0) from rfl); have z2 := cell_in hrz (show (#[Value.int .u64 0, .int .u64 0, .int .u64 0] : Array Value)[2]? = some (.int .u64 0) from rfl); have f0 := free_in (j := 0) hrz; have f1 := free_in (j := 1) hrz; have f2 := free_in (j := 2) hrz; have HRZ := Lib.hid hrz; clear hM5 hA5 hK5 hrz))
    all_goals go_wp2_with fail
    · go_meet
      case rel =>
        exact ⟨_, rfl, rfl, fun e => by have h1 := HH.out.1.lt; have h2 := HM5.out.size; omega, heap_new _ _, (HH.out.1.acc HA5.out.1 HA5.out.2).mod ((Mod.refl [] _).alloc _) (by simp), HM5.out.alloc _⟩
    · go_meet
      case rel =>
        have hk : ∀ j, 4 ≤ j → w5.cell? ⟨t, j, none⟩ = W.cell? ⟨t, j, none⟩ := fun j hj => (HA5.out.2 j hj).trans (((Mod.refl [] W).alloc _).drew.cell (p := ⟨t, j, none⟩) HH.out.1.lt (by simp))
        refine ⟨_, rfl, rfl, hct, ?_, (HH.out.1.acc HA5.out.1 hk).mod (S := [W.heap.size]) ((((Mod.refl _ w5).setCell (.inl (by simp)) _).setCell (.inl (by simp)) _).setCell (.inl (by simp)) _) (by simpa using hct.symm), ((HM5.out.setCell (.inr (Nat.le_refl _)) _).setCell (.inr (Nat.le_refl _)) _).setCell (.inr (Nat.le_refl _)) _⟩
        simp [World.setCell, Array.getElem?_modify, HRZ.out]
  case rest =>
    obtain ⟨c, rfl, rfl, hct2, hr, hT, hMx⟩ := hcut
    obtain ⟨o1, o2, o3⟩ := HO0.out
    rw [o1, o2, o3] at hr
    have l0 := cell_in hr (show (#[Value.int .u64 0, .int .u64 0, .int .u64 0] : Array Value)[0]? = some (.int .u64 0) from rfl)
    have l1 := cell_in hr (show (#[Value.int .u64 0, .int .u64 0, .int .u64 0] : Array Value)[1]? = some (.int .u64 0) from rfl)
    have l2 := cell_in hr (show (#[Value.int .u64 0, .int .u64 0, .int .u64 0] : Array Value)[2]? = some (.int .u64 0) from rfl)
    have e1 := hMx.at d1 (by simpa using htl.symm)
    have e8 := hMx.at d8 (by simpa using htl.symm)
    have k8 := hT.k8
    simp only at k8
    obtain ⟨rc, hrc⟩ : ∃ rc, s.reach = rc := ⟨_, rfl⟩
    rw [hrc] at k8
    have HRC := Lib.hid hrc
    have HX := Lib.hid hMx
    have HTX := Lib.hid (HS.out _ ((HH.out.own hMx hT).mod0 (Mod.refl [] _).drew))
    clear hMx hT hr o1 o2 o3 hrc d0 d1 d2 d3 d4 d5 d6 d7 d8 d9 d10 d11 d12 d13 d14 d15
    go_wp2_with fail
    go_region_held3 (fun w' => w'.cell? ⟨p, 1, none⟩ = some (.int .i64 fr) ∧ w'.cell? ⟨p, 8, none⟩ = some (.int .u64 bal) ∧ w'.cell? ⟨c, 0, none⟩ = some (.int .u64 0) ∧ w'.cell? ⟨c, 1, none⟩ = some (.int .u64 0) ∧ w'.cell? ⟨c, 2, none⟩ = some (.int .u64 0) ∧ w'.cell? ⟨t, 8, none⟩ = some (.int .u64 rc)) (first | exact ⟨e1, e8, l0, l1, l2, k8⟩ | exact ⟨HO5.out.2.2.2.at e1 (by simpa using htl.symm), HO5.out.2.2.2.at e8 (by simpa using htl.symm), HO5.out.2.2.2.at l0 (by simpa using hct2), HO5.out.2.2.2.at l1 (by simpa using hct2), HO5.out.2.2.2.at l2 (by simpa using hct2), m8⟩) ((go_at_call 81; rw [HRC.out] at HTX; refine HTX.out.mono ?_; rintro _ w5 ⟨v, rfl, hO⟩; have HO5 := Lib.hid hO; have m8 := hO.2.2.1.1.k8; rw [HRE.out, HRC.out] at m8; clear hO))
    have HO6 := Lib.hid ((HO5.out.back HX.out.drew).back0 HM.out)
    go_wp2_with fail
    go_ret2
    exact ⟨v, rfl, HO6.out⟩

end Go.Proofs.YtaaaiggbnkeblaaGreatDoor
