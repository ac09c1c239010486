/-
  The walk of a turn's Hear at a letter of kind 6 (accepted).
  The walk of a turn's Hear at a letter of kind 7 (took).
-/
import Derived.Test.YtaaaiggbnkeblaaGreatDoorMChoI
namespace Go.Proofs.YtaaaiggbnkeblaaGreatDoor
set_option linter.unusedSimpArgs false
set_option linter.unusedVariables false
open Go.RowKit

set_option maxRecDepth 100000 in
set_option maxHeartbeats 8000000 in
theorem hear_6 (t : Nat) (s s' : TS) (L : List Let) (er : Int) (me fr : Nat) (seq bal old nid nms cut reach : Int) (hme : s.me = me) (hme3 : me < 3) (hfr : fr < 3)
    (H : Gives t (s.freeze reach) s' L er 40 #[.pointer (some ⟨t, 0, none⟩), .agg #[.int .i64 6, .int .i64 fr, .int .i64 me, .int .u64 seq, .int .i64 0, .slice none 0 0, .int .u64 4, .int .u64 7, .int .u64 bal, .int .u64 old, .int .u64 nid, .int .u64 nms, .int .u64 cut, .slice none 0 0, .slice none 0 0, .float .f64 0]]) :
    Gives t s s' L er 9 #[.pointer (some ⟨t, 0, none⟩), .agg #[.int .i64 6, .int .i64 fr, .int .i64 me, .int .u64 seq, .int .i64 0, .slice none 0 0, .int .u64 4, .int .u64 7, .int .u64 bal, .int .u64 old, .int .u64 nid, .int .u64 nms, .int .u64 cut, .slice none 0 0, .slice none 0 0, .float .f64 0], .int .u64 reach] := by
  intro w h
  have hmm := @run_makeMap Tryz.prog
  have hm0 := (Mod.refl [] w).alloc (.cells #[.int .i64 6, .int .i64 fr, .int .i64 me, .int .u64 seq, .int .i64 0, .slice none 0 0, .int .u64 4, .int .u64 7, .int .u64 bal, .int .u64 old, .int .u64 nid, .int .u64 nms, .int .u64 cut, .slice none 0 0, .slice none 0 0, .float .f64 0] 42)
  have hm1 := hm0.alloc (.map #[] 0)
  have hrow0 := heap_new w (.cells #[.int .i64 6, .int .i64 fr, .int .i64 me, .int .u64 seq, .int .i64 0, .slice none 0 0, .int .u64 4, .int .u64 7, .int .u64 bal, .int .u64 old, .int .u64 nid, .int .u64 nms, .int .u64 cut, .slice none 0 0, .slice none 0 0, .float .f64 0] 42)
  have hlt0 : w.heap.size < (w.alloc (.cells #[.int .i64 6, .int .i64 fr, .int .i64 me, .int .u64 seq, .int .i64 0, .slice none 0 0, .int .u64 4, .int .u64 7, .int .u64 bal, .int .u64 old, .int .u64 nid, .int .u64 nms, .int .u64 cut, .slice none 0 0, .slice none 0 0, .float .f64 0] 42)).heap.size := by simp
  obtain ⟨w1, w2, w3, w4, w5, w6, u1, u2, u3, u4, u5, u6, hM6, hmap⟩ := hear_map t (w.heap.size + 1) ((w.alloc (.cells #[.int .i64 6, .int .i64 fr, .int .i64 me, .int .u64 seq, .int .i64 0, .slice none 0 0, .int .u64 4, .int .u64 7, .int .u64 bal, .int .u64 old, .int .u64 nid, .int .u64 nms, .int .u64 cut, .slice none 0 0, .slice none 0 0, .float .f64 0] 42)).alloc (.map #[] 0)) (by have := heap_new (w.alloc (.cells #[.int .i64 6, .int .i64 fr, .int .i64 me, .int .u64 seq, .int .i64 0, .slice none 0 0, .int .u64 4, .int .u64 7, .int .u64 bal, .int .u64 old, .int .u64 nid, .int .u64 nms, .int .u64 cut, .slice none 0 0, .slice none 0 0, .float .f64 0] 42)) (.map #[] 0); simpa using this)
  have hM := hm1.step hM6 (fun x hx => .inr (by simp at hx; omega))
  have hrow : w6.heap[w.heap.size]? = some (.cells #[.int .i64 6, .int .i64 fr, .int .i64 me, .int .u64 seq, .int .i64 0, .slice none 0 0, .int .u64 4, .int .u64 7, .int .u64 bal, .int .u64 old, .int .u64 nid, .int .u64 nms, .int .u64 cut, .slice none 0 0, .slice none 0 0, .float .f64 0] 42 (0, 0)) := row_mod hM6 (row_mod ((Mod.refl [] _).alloc (.map #[] 0)) hrow0 (by simp)) (by simp)
  have hlk := mrun_look_at (P := Tryz.prog) (w := w6) (es := hes t) (k := 6) Tryz.underlying117 Tryz.underlying3 hmap rfl
  unfold hfun at hlk
  unfold HUp at u1 u2 u3 u4 u5 u6
  have htl : t ≠ w.heap.size := Nat.ne_of_lt h.1.lt
  have hMAY : ∀ w, Calls Tryz.prog 44 #[.agg #[.int .i64 6, .int .i64 fr, .int .i64 me, .int .u64 seq, .int .i64 0, .slice none 0 0, .int .u64 4, .int .u64 7, .int .u64 bal, .int .u64 old, .int .u64 nid, .int .u64 nms, .int .u64 cut, .slice none 0 0, .slice none 0 0, .float .f64 0]] w fun e w' => e = .returned (.bool true) ∧ Mod [] w w' := fun w => lmay_is ⟨6, fr, me, seq, 4, 7, bal, old, nid, nms, cut⟩ ⟨show 1 ≤ 6 by decide, show 6 ≤ 14 by decide⟩ (show fr < 64 by omega) (show me < 64 by omega) w
  have HMAY := Lib.hid hMAY
  have hx : (bits .and .u64 7 (2 ^ fr) != 0) = true := by
    have h3 : fr = 0 ∨ fr = 1 ∨ fr = 2 := by omega
    rcases h3 with rfl | rfl | rfl <;> decide
  have HHAS := Lib.hid (fun w => has_is 7 fr true (show fr < 64 by omega) hx w)
  have HH := Lib.hid (h.mod0 hM)
  have HM := Lib.hid hM
  have HS := Lib.hid H
  obtain ⟨d0, d1, d2, d3, d4, d5, d6, d7, d8, d9, d10, d11, d12, d13, d14, d15⟩ := let_cells hrow
  have hne : ((me : Int) != (me : Int)) = false := by simp
  clear h hm0 hm1 hrow0 hlt0 hM6 hmap hM hrow hMAY H hx
  go_enter Tryz.func9, Tryz.ntmps9
  go_wp2_with fail
  clear u1 u2 u3 u4 u5 u6 hlk hmm
  generalize w.heap.size = p at htl d0 d1 d2 d3 d4 d5 d6 d7 d8 d9 d10 d11 d12 d13 d14 d15 ⊢
  have k4 := HH.out.1.k4
  rw [hme] at k4
  have k6 := HH.out.1.k6
  have HME := Lib.hid hme
  clear hme
  go_region_held3 (fun w' => w'.cell? ⟨p, 0, none⟩ = some (.int .i64 6) ∧ w'.cell? ⟨p, 1, none⟩ = some (.int .i64 fr) ∧ w'.cell? ⟨p, 2, none⟩ = some (.int .i64 me) ∧ w'.cell? ⟨p, 3, none⟩ = some (.int .u64 seq) ∧ w'.cell? ⟨p, 4, none⟩ = some (.int .i64 0) ∧ w'.cell? ⟨p, 5, none⟩ = some (.slice none 0 0) ∧ w'.cell? ⟨p, 6, none⟩ = some (.int .u64 4) ∧ w'.cell? ⟨p, 7, none⟩ = some (.int .u64 7) ∧ w'.cell? ⟨p, 8, none⟩ = some (.int .u64 bal) ∧ w'.cell? ⟨p, 9, none⟩ = some (.int .u64 old) ∧ w'.cell? ⟨p, 10, none⟩ = some (.int .u64 nid) ∧ w'.cell? ⟨p, 11, none⟩ = some (.int .u64 nms) ∧ w'.cell? ⟨p, 12, none⟩ = some (.int .u64 cut) ∧ w'.cell? ⟨p, 13, none⟩ = some (.slice none 0 0) ∧ w'.cell? ⟨p, 14, none⟩ = some (.slice none 0 0) ∧ w'.cell? ⟨p, 15, none⟩ = some (.float .f64 0) ∧ w'.cell? ⟨t, 4, none⟩ = some (.int .i64 me) ∧ w'.cell? ⟨t, 6, none⟩ = some (.int .u64 7)) (first | exact ⟨d0, d1, d2, d3, d4, d5, d6, d7, d8, d9, d10, d11, d12, d13, d14, d15, k4, k6⟩ | exact ⟨HM7.out.at d0 (by simp), HM7.out.at d1 (by simp), HM7.out.at d2 (by simp), HM7.out.at d3 (by simp), HM7.out.at d4 (by simp), HM7.out.at d5 (by simp), HM7.out.at d6 (by simp), HM7.out.at d7 (by simp), HM7.out.at d8 (by simp), HM7.out.at d9 (by simp), HM7.out.at d10 (by simp), HM7.out.at d11 (by simp), HM7.out.at d12 (by simp), HM7.out.at d13 (by simp), HM7.out.at d14 (by simp), HM7.out.at d15 (by simp), HM7.out.at k4 (by simp), HM7.out.at k6 (by simp)⟩) ((first | (go_at_call 44; refine (HMAY.out _).mono ?_; rintro _ w7 ⟨rfl, hM7⟩; have HM7 := Lib.hid ((Mod.refl [] w6).drew.trans hM7); clear hM7) | (go_at_call 20; refine (HHAS.out _).mono ?_; rintro _ w8 ⟨rfl, rfl⟩)))
  replace d0 := HM7.out.at d0 (by simp)
  replace d1 := HM7.out.at d1 (by simp)
  replace d2 := HM7.out.at d2 (by simp)
  replace d3 := HM7.out.at d3 (by simp)
  replace d4 := HM7.out.at d4 (by simp)
  replace d5 := HM7.out.at d5 (by simp)
  replace d6 := HM7.out.at d6 (by simp)
  replace d7 := HM7.out.at d7 (by simp)
  replace d8 := HM7.out.at d8 (by simp)
  replace d9 := HM7.out.at d9 (by simp)
  replace d10 := HM7.out.at d10 (by simp)
  replace d11 := HM7.out.at d11 (by simp)
  replace d12 := HM7.out.at d12 (by simp)
  replace d13 := HM7.out.at d13 (by simp)
  replace d14 := HM7.out.at d14 (by simp)
  replace d15 := HM7.out.at d15 (by simp)
  have HH7 := Lib.hid ((HH.out.mod0 HM7.out).mod0 (Mod.refl [] _).drew)
  replace k6 := HM7.out.at k6 (by simp)
  have k5 := HM7.out.at HH.out.1.k5 (by simp)
  have HMM := Lib.hid (HM.out.trans HM7.out)
  clear k4 HM7 HM HH
  go_wp2_with fail
  go_region
  go_wp2_with fail
  refine (freeze_s t s reach _ HH7.out).mono ?_
  rintro _ w8 ⟨rfl, hT8, hM8⟩
  replace d0 := hM8.at d0 (by simpa using htl.symm)
  replace d1 := hM8.at d1 (by simpa using htl.symm)
  replace d2 := hM8.at d2 (by simpa using htl.symm)
  replace d3 := hM8.at d3 (by simpa using htl.symm)
  replace d4 := hM8.at d4 (by simpa using htl.symm)
  replace d5 := hM8.at d5 (by simpa using htl.symm)
  replace d6 := hM8.at d6 (by simpa using htl.symm)
  replace d7 := hM8.at d7 (by simpa using htl.symm)
  replace d8 := hM8.at d8 (by simpa using htl.symm)
  replace d9 := hM8.at d9 (by simpa using htl.symm)
  replace d10 := hM8.at d10 (by simpa using htl.symm)
  replace d11 := hM8.at d11 (by simpa using htl.symm)
  replace d12 := hM8.at d12 (by simpa using htl.symm)
  replace d13 := hM8.at d13 (by simpa using htl.symm)
  replace d14 := hM8.at d14 (by simpa using htl.symm)
  replace d15 := hM8.at d15 (by simpa using htl.symm)
  have HM8 := Lib.hid ((HMM.out.drew.mono (T := [t]) (by simp)).trans hM8)
  have HX := Lib.hid (HS.out _ hT8)
  clear hT8 hM8 HH7 HS HMM k5 k6
  go_wp2_with fail
  refine HX.out.mono ?_
  rintro _ w9 ⟨v, rfl, hO⟩
  have HO := Lib.hid (hO.back HM8.out)
  clear hO
  go_wp2_with fail
  go_ret2
  exact ⟨v, rfl, HO.out⟩

end Go.Proofs.YtaaaiggbnkeblaaGreatDoor

namespace Go.Proofs.YtaaaiggbnkeblaaGreatDoor
set_option linter.unusedSimpArgs false
set_option linter.unusedVariables false
open Go.RowKit

set_option maxRecDepth 100000 in
set_option maxHeartbeats 8000000 in
theorem hear_7 (t : Nat) (s s' : TS) (L : List Let) (er : Int) (me fr : Nat) (seq bal old nid nms cut reach : Int) (hme : s.me = me) (hme3 : me < 3) (hfr : fr < 3)
    (H : Gives t s s' L er 41 #[.pointer (some ⟨t, 0, none⟩), .agg #[.int .i64 7, .int .i64 fr, .int .i64 me, .int .u64 seq, .int .i64 0, .slice none 0 0, .int .u64 4, .int .u64 7, .int .u64 bal, .int .u64 old, .int .u64 nid, .int .u64 nms, .int .u64 cut, .slice none 0 0, .slice none 0 0, .float .f64 0]]) :
    Gives t s s' L er 9 #[.pointer (some ⟨t, 0, none⟩), .agg #[.int .i64 7, .int .i64 fr, .int .i64 me, .int .u64 seq, .int .i64 0, .slice none 0 0, .int .u64 4, .int .u64 7, .int .u64 bal, .int .u64 old, .int .u64 nid, .int .u64 nms, .int .u64 cut, .slice none 0 0, .slice none 0 0, .float .f64 0], .int .u64 reach] := by
  intro w h
  have hmm := @run_makeMap Tryz.prog
  have hm0 := (Mod.refl [] w).alloc (.cells #[.int .i64 7, .int .i64 fr, .int .i64 me, .int .u64 seq, .int .i64 0, .slice none 0 0, .int .u64 4, .int .u64 7, .int .u64 bal, .int .u64 old, .int .u64 nid, .int .u64 nms, .int .u64 cut, .slice none 0 0, .slice none 0 0, .float .f64 0] 42)
  have hm1 := hm0.alloc (.map #[] 0)
  have hrow0 := heap_new w (.cells #[.int .i64 7, .int .i64 fr, .int .i64 me, .int .u64 seq, .int .i64 0, .slice none 0 0, .int .u64 4, .int .u64 7, .int .u64 bal, .int .u64 old, .int .u64 nid, .int .u64 nms, .int .u64 cut, .slice none 0 0, .slice none 0 0, .float .f64 0] 42)
  have hlt0 : w.heap.size < (w.alloc (.cells #[.int .i64 7, .int .i64 fr, .int .i64 me, .int .u64 seq, .int .i64 0, .slice none 0 0, .int .u64 4, .int .u64 7, .int .u64 bal, .int .u64 old, .int .u64 nid, .int .u64 nms, .int .u64 cut, .slice none 0 0, .slice none 0 0, .float .f64 0] 42)).heap.size := by simp
  obtain ⟨w1, w2, w3, w4, w5, w6, u1, u2, u3, u4, u5, u6, hM6, hmap⟩ := hear_map t (w.heap.size + 1) ((w.alloc (.cells #[.int .i64 7, .int .i64 fr, .int .i64 me, .int .u64 seq, .int .i64 0, .slice none 0 0, .int .u64 4, .int .u64 7, .int .u64 bal, .int .u64 old, .int .u64 nid, .int .u64 nms, .int .u64 cut, .slice none 0 0, .slice none 0 0, .float .f64 0] 42)).alloc (.map #[] 0)) (by have := heap_new (w.alloc (.cells #[.int .i64 7, .int .i64 fr, .int .i64 me, .int .u64 seq, .int .i64 0, .slice none 0 0, .int .u64 4, .int .u64 7, .int .u64 bal, .int .u64 old, .int .u64 nid, .int .u64 nms, .int .u64 cut, .slice none 0 0, .slice none 0 0, .float .f64 0] 42)) (.map #[] 0); simpa using this)
  have hM := hm1.step hM6 (fun x hx => .inr (by simp at hx; omega))
  have hrow : w6.heap[w.heap.size]? = some (.cells #[.int .i64 7, .int .i64 fr, .int .i64 me, .int .u64 seq, .int .i64 0, .slice none 0 0, .int .u64 4, .int .u64 7, .int .u64 bal, .int .u64 old, .int .u64 nid, .int .u64 nms, .int .u64 cut, .slice none 0 0, .slice none 0 0, .float .f64 0] 42 (0, 0)) := row_mod hM6 (row_mod ((Mod.refl [] _).alloc (.map #[] 0)) hrow0 (by simp)) (by simp)
  have hlk := mrun_look_at (P := Tryz.prog) (w := w6) (es := hes t) (k := 7) Tryz.underlying117 Tryz.underlying3 hmap rfl
  unfold hfun at hlk
  unfold HUp at u1 u2 u3 u4 u5 u6
  have htl : t ≠ w.heap.size := Nat.ne_of_lt h.1.lt
  have hMAY : ∀ w, Calls Tryz.prog 44 #[.agg #[.int .i64 7, .int .i64 fr, .int .i64 me, .int .u64 seq, .int .i64 0, .slice none 0 0, .int .u64 4, .int .u64 7, .int .u64 bal, .int .u64 old, .int .u64 nid, .int .u64 nms, .int .u64 cut, .slice none 0 0, .slice none 0 0, .float .f64 0]] w fun e w' => e = .returned (.bool true) ∧ Mod [] w w' := fun w => lmay_is ⟨7, fr, me, seq, 4, 7, bal, old, nid, nms, cut⟩ ⟨show 1 ≤ 7 by decide, show 7 ≤ 14 by decide⟩ (show fr < 64 by omega) (show me < 64 by omega) w
  have HMAY := Lib.hid hMAY
  have hx : (bits .and .u64 7 (2 ^ fr) != 0) = true := by
    have h3 : fr = 0 ∨ fr = 1 ∨ fr = 2 := by omega
    rcases h3 with rfl | rfl | rfl <;> decide
  have HHAS := Lib.hid (fun w => has_is 7 fr true (show fr < 64 by omega) hx w)
  have HH := Lib.hid (h.mod0 hM)
  have HM := Lib.hid hM
  have HS := Lib.hid H
  obtain ⟨d0, d1, d2, d3, d4, d5, d6, d7, d8, d9, d10, d11, d12, d13, d14, d15⟩ := let_cells hrow
  have hne : ((me : Int) != (me : Int)) = false := by simp
  clear h hm0 hm1 hrow0 hlt0 hM6 hmap hM hrow hMAY H hx
  go_enter Tryz.func9, Tryz.ntmps9
  go_wp2_with fail
  clear u1 u2 u3 u4 u5 u6 hlk hmm
  generalize w.heap.size = p at htl d0 d1 d2 d3 d4 d5 d6 d7 d8 d9 d10 d11 d12 d13 d14 d15 ⊢
  have k4 := HH.out.1.k4
  rw [hme] at k4
  have k6 := HH.out.1.k6
  have HME := Lib.hid hme
  clear hme
  go_region_held3 (fun w' => w'.cell? ⟨p, 0, none⟩ = some (.int .i64 7) ∧ w'.cell? ⟨p, 1, none⟩ = some (.int .i64 fr) ∧ w'.cell? ⟨p, 2, none⟩ = some (.int .i64 me) ∧ w'.cell? ⟨p, 3, none⟩ = some (.int .u64 seq) ∧ w'.cell? ⟨p, 4, none⟩ = some (.int .i64 0) ∧ w'.cell? ⟨p, 5, none⟩ = some (.slice none 0 0) ∧ w'.cell? ⟨p, 6, none⟩ = some (.int .u64 4) ∧ w'.cell? ⟨p, 7, none⟩ = some (.int .u64 7) ∧ w'.cell? ⟨p, 8, none⟩ = some (.int .u64 bal) ∧ w'.cell? ⟨p, 9, none⟩ = some (.int .u64 old) ∧ w'.cell? ⟨p, 10, none⟩ = some (.int .u64 nid) ∧ w'.cell? ⟨p, 11, none⟩ = some (.int .u64 nms) ∧ w'.cell? ⟨p, 12, none⟩ = some (.int .u64 cut) ∧ w'.cell? ⟨p, 13, none⟩ = some (.slice none 0 0) ∧ w'.cell? ⟨p, 14, none⟩ = some (.slice none 0 0) ∧ w'.cell? ⟨p, 15, none⟩ = some (.float .f64 0) ∧ w'.cell? ⟨t, 4, none⟩ = some (.int .i64 me) ∧ w'.cell? ⟨t, 6, none⟩ = some (.int .u64 7)) (first | exact ⟨d0, d1, d2, d3, d4, d5, d6, d7, d8, d9, d10, d11, d12, d13, d14, d15, k4, k6⟩ | exact ⟨HM7.out.at d0 (by simp), HM7.out.at d1 (by simp), HM7.out.at d2 (by simp), HM7.out.at d3 (by simp), HM7.out.at d4 (by simp), HM7.out.at d5 (by simp), HM7.out.at d6 (by simp), HM7.out.at d7 (by simp), HM7.out.at d8 (by simp), HM7.out.at d9 (by simp), HM7.out.at d10 (by simp), HM7.out.at d11 (by simp), HM7.out.at d12 (by simp), HM7.out.at d13 (by simp), HM7.out.at d14 (by simp), HM7.out.at d15 (by simp), HM7.out.at k4 (by simp), HM7.out.at k6 (by simp)⟩) ((first | (go_at_call 44; refine (HMAY.out _).mono ?_; rintro _ w7 ⟨rfl, hM7⟩; have HM7 := Lib.hid ((Mod.refl [] w6).drew.trans hM7); clear hM7) | (go_at_call 20; refine (HHAS.out _).mono ?_; rintro _ w8 ⟨rfl, rfl⟩)))
  replace d0 := HM7.out.at d0 (by simp)
  replace d1 := HM7.out.at d1 (by simp)
  replace d2 := HM7.out.at d2 (by simp)
  replace d3 := HM7.out.at d3 (by simp)
  replace d4 := HM7.out.at d4 (by simp)
  replace d5 := HM7.out.at d5 (by simp)
  replace d6 := HM7.out.at d6 (by simp)
  replace d7 := HM7.out.at d7 (by simp)
  replace d8 := HM7.out.at d8 (by simp)
  replace d9 := HM7.out.at d9 (by simp)
  replace d10 := HM7.out.at d10 (by simp)
  replace d11 := HM7.out.at d11 (by simp)
  replace d12 := HM7.out.at d12 (by simp)
  replace d13 := HM7.out.at d13 (by simp)
  replace d14 := HM7.out.at d14 (by simp)
  replace d15 := HM7.out.at d15 (by simp)
  have HH7 := Lib.hid ((HH.out.mod0 HM7.out).mod0 (Mod.refl [] _).drew)
  replace k6 := HM7.out.at k6 (by simp)
  have k5 := HM7.out.at HH.out.1.k5 (by simp)
  have HMM := Lib.hid (HM.out.trans HM7.out)
  clear k4 HM7 HM HH
  go_wp2_with fail
  go_region
  go_wp2_with fail
  have HX := Lib.hid (HS.out _ HH7.out)
  have HM8 := Lib.hid (HMM.out.drew.mono (T := [t]) (by simp))
  refine HX.out.mono ?_
  rintro _ w9 ⟨v, rfl, hO⟩
  have HO := Lib.hid (hO.back HM8.out)
  clear hO
  go_wp2_with fail
  go_ret2
  exact ⟨v, rfl, HO.out⟩

end Go.Proofs.YtaaaiggbnkeblaaGreatDoor
