/-
  The walks of a turn's decided, decide, tell; a wish's letters.
-/
import Derived.Test.YtaaaiggbnkeblaaGreatDoorMChoI
import Derived.Deep.DeepCutAuto
namespace Go.Proofs.YtaaaiggbnkeblaaGreatDoor
set_option linter.unusedSimpArgs false
set_option linter.unusedVariables false
open Go.RowKit

set_option maxRecDepth 100000 in
set_option maxHeartbeats 8000000 in
theorem decided_new (t : Nat) (s : TS) (kd fr to' : Nat) (seq id0 ms0 bal old nms cut : Int) (hd : s.done = false) :
    Gives t s { s with done := true, vm := nms, vc := cut } [] 0 43 #[.pointer (some ⟨t, 0, none⟩), .agg #[.int .i64 kd, .int .i64 fr, .int .i64 to', .int .u64 seq, .int .i64 0, .slice none 0 0, .int .u64 id0, .int .u64 ms0, .int .u64 bal, .int .u64 old, .int .u64 5, .int .u64 nms, .int .u64 cut, .slice none 0 0, .slice none 0 0, .float .f64 0]] := by
  intro w h
  have hm := (Mod.refl [] w).alloc (.cells #[.int .i64 kd, .int .i64 fr, .int .i64 to', .int .u64 seq, .int .i64 0, .slice none 0 0, .int .u64 id0, .int .u64 ms0, .int .u64 bal, .int .u64 old, .int .u64 5, .int .u64 nms, .int .u64 cut, .slice none 0 0, .slice none 0 0, .float .f64 0] 42)
  have HM := Lib.hid (hm.mono (T := [t]) (by simp))
  have HH := Lib.hid (h.mod0 hm)
  have htl : t ≠ w.heap.size := Nat.ne_of_lt h.1.lt
  have HROW := Lib.hid (heap_new w (.cells #[.int .i64 kd, .int .i64 fr, .int .i64 to', .int .u64 seq, .int .i64 0, .slice none 0 0, .int .u64 id0, .int .u64 ms0, .int .u64 bal, .int .u64 old, .int .u64 5, .int .u64 nms, .int .u64 cut, .slice none 0 0, .slice none 0 0, .float .f64 0] 42))
  have HD := Lib.hid hd
  clear h hm hd
  go_enter Tryz.func43, Tryz.ntmps43
  go_wp2_with fail
  generalize w.alloc (.cells #[.int .i64 kd, .int .i64 fr, .int .i64 to', .int .u64 seq, .int .i64 0, .slice none 0 0, .int .u64 id0, .int .u64 ms0, .int .u64 bal, .int .u64 old, .int .u64 5, .int .u64 nms, .int .u64 cut, .slice none 0 0, .slice none 0 0, .float .f64 0] 42) = W at HM HH HROW ⊢
  obtain ⟨p, hp⟩ : ∃ p, w.heap.size = p := ⟨_, rfl⟩
  rw [hp] at HROW htl ⊢
  clear hp
  obtain ⟨_, _, _, _, _, _, _, _, _, _, d10, d11, d12, _, _, _⟩ := let_cells HROW.out
  have k5 := HH.out.1.k5
  have k211 := HH.out.1.k211
  rw [HD.out] at k211
  go_region
  all_goals
    go_wp2_with fail
    have HH3 := Lib.hid (HH.out.mod0 (Mod.refl [] _).drew)
    have HM3 := Lib.hid HM.out.drew
    have HROW3 := Lib.hid (row_mod (Mod.refl [] W).drew HROW.out (by simp))
    clear d10 d11 d12 k5 k211 HH HM HROW
    generalize W.drew = W3 at HH3 HM3 HROW3 ⊢
    obtain ⟨_, _, _, _, _, _, _, _, _, _, d10, d11, d12, _, _, _⟩ := let_cells HROW3.out
    have k211 := HH3.out.1.k211
    have k212 := HH3.out.1.k212
    have k213 := HH3.out.1.k213
    have f211 := HH3.out.1.free 211
    have f212 := HH3.out.1.free 212
    have f213 := HH3.out.1.free 213
    go_region
    all_goals
      go_wp2_with fail
      go_ret2
      exact ⟨_, rfl, .none ((HH3.out.own ((((Mod.refl [t] _).setCell (.inl (by simp)) _).setCell (.inl (by simp)) _).setCell (.inl (by simp)) _).drew (((HH3.out.1.s211 true).s212 nms).s213 cut).drew)) (HM3.out.trans ((((Mod.refl [t] _).setCell (.inl (by simp)) _).setCell (.inl (by simp)) _).setCell (.inl (by simp)) _).drew)⟩

theorem Tryz.size_letter : (Tryz.prog.info? 42).map (·.size) = some 16 := by kernel_rfl
/-- The letter that a wish prepares with. -/
theorem wprepare_is (t : Nat) (s : TS) (w : World) (h : TEnv w t s) : Calls Tryz.prog 35 #[.pointer (some ⟨t, 9, none⟩)] w fun e w' => e = .returned (.agg #[.int .i64 4, .int .i64 0, .int .i64 0, .int .u64 0, .int .i64 0, .slice none 0 0, .int .u64 0, .int .u64 0, .int .u64 s.bal, .int .u64 0, .int .u64 0, .int .u64 0, .int .u64 0, .slice none 0 0, .slice none 0 0, .float .f64 0]) ∧ Mod [] w w' := by
  have k9 := h.1.k9
  have htl : t ≠ w.heap.size := Nat.ne_of_lt h.1.lt
  have hm := (Mod.refl [] w).alloc (.cells #[.int .i64 0, .int .i64 0, .int .i64 0, .int .u64 0, .int .i64 0, .slice none 0 0, .int .u64 0, .int .u64 0, .int .u64 0, .int .u64 0, .int .u64 0, .int .u64 0, .int .u64 0, .slice none 0 0, .slice none 0 0, .float .f64 0] 42)
  have HM := Lib.hid hm
  replace k9 := hm.at k9 (by simp)
  have hst : ∀ (a : Addr) (x : Nat) (w : World) (m : Mode), (store a (.float .f64 x) m).run Tryz.prog w = stored Tryz.prog w a (.float .f64 x) m := fun a x w m => run_store Tryz.prog w a _ m rfl
  clear h hm
  go_enter Tryz.func35, Tryz.ntmps35
  go_wp2_with fail
  refine bodyPost_ret (results_cell_row rfl _ _ w.heap.size 42 _ (0, 0) _ rfl (heap_new _ _) Tryz.underlying42 rfl Tryz.size_letter) rfl ?_
  exact ⟨rfl, (Mod.refl [] w).alloc _⟩

set_option maxRecDepth 100000 in
set_option maxHeartbeats 8000000 in
theorem waccept_is (t : Nat) (s : TS) (w : World) (h : TEnv w t s) : Calls Tryz.prog 132 #[.pointer (some ⟨t, 9, none⟩)] w fun e w' => e = .returned (.agg #[.int .i64 6, .int .i64 0, .int .i64 0, .int .u64 0, .int .i64 0, .slice none 0 0, .int .u64 0, .int .u64 0, .int .u64 s.bal, .int .u64 0, .int .u64 0, .int .u64 s.wm, .int .u64 s.wc, .slice none 0 0, .slice none 0 0, .float .f64 0]) ∧ Mod [] w w' := by
  have k9 := h.1.k9
  have k208 := h.1.k208
  have k209 := h.1.k209
  have htl : t ≠ w.heap.size := Nat.ne_of_lt h.1.lt
  have hm := (Mod.refl [] w).alloc (.cells #[.int .i64 0, .int .i64 0, .int .i64 0, .int .u64 0, .int .i64 0, .slice none 0 0, .int .u64 0, .int .u64 0, .int .u64 0, .int .u64 0, .int .u64 0, .int .u64 0, .int .u64 0, .slice none 0 0, .slice none 0 0, .float .f64 0] 42)
  have HM := Lib.hid hm
  have HROW := Lib.hid (heap_new w (.cells #[.int .i64 0, .int .i64 0, .int .i64 0, .int .u64 0, .int .i64 0, .slice none 0 0, .int .u64 0, .int .u64 0, .int .u64 0, .int .u64 0, .int .u64 0, .int .u64 0, .int .u64 0, .slice none 0 0, .slice none 0 0, .float .f64 0] 42))
  replace k9 := hm.at k9 (by simp)
  replace k208 := hm.at k208 (by simp)
  replace k209 := hm.at k209 (by simp)
  have hst : ∀ (a : Addr) (x : Nat) (w : World) (m : Mode), (store a (.float .f64 x) m).run Tryz.prog w = stored Tryz.prog w a (.float .f64 x) m := fun a x w m => run_store Tryz.prog w a _ m rfl
  clear h hm
  go_enter Tryz.func132, Tryz.ntmps132
  go_wp2_with fail
  generalize w.alloc (.cells #[.int .i64 0, .int .i64 0, .int .i64 0, .int .u64 0, .int .i64 0, .slice none 0 0, .int .u64 0, .int .u64 0, .int .u64 0, .int .u64 0, .int .u64 0, .int .u64 0, .int .u64 0, .slice none 0 0, .slice none 0 0, .float .f64 0] 42) = W at HM HROW k9 k208 k209 ⊢
  obtain ⟨p, hp⟩ : ∃ p, w.heap.size = p := ⟨_, rfl⟩
  rw [hp] at HROW htl ⊢
  have HPE := Lib.hid hp
  clear hp
  have htp := htl.symm
  obtain ⟨d0, d1, d2, d3, d4, d5, d6, d7, d8, d9, d10, d11, d12, d13, d14, d15⟩ := let_cells HROW.out
  have f0 := free_in (j := 0) HROW.out
  have f1 := free_in (j := 1) HROW.out
  have f2 := free_in (j := 2) HROW.out
  have f3 := free_in (j := 3) HROW.out
  have f4 := free_in (j := 4) HROW.out
  have f5 := free_in (j := 5) HROW.out
  have f6 := free_in (j := 6) HROW.out
  have f7 := free_in (j := 7) HROW.out
  have f8 := free_in (j := 8) HROW.out
  have f9 := free_in (j := 9) HROW.out
  have f10 := free_in (j := 10) HROW.out
  have f11 := free_in (j := 11) HROW.out
  have f12 := free_in (j := 12) HROW.out
  have f13 := free_in (j := 13) HROW.out
  have f14 := free_in (j := 14) HROW.out
  have f15 := free_in (j := 15) HROW.out
  go_region
  go_wp2_with fail
  refine bodyPost_ret (results_cell_row rfl _ _ p 42 #[.int .i64 6, .int .i64 0, .int .i64 0, .int .u64 0, .int .i64 0, .slice none 0 0, .int .u64 0, .int .u64 0, .int .u64 s.bal, .int .u64 0, .int .u64 0, .int .u64 s.wm, .int .u64 s.wc, .slice none 0 0, .slice none 0 0, .float .f64 0] (0, 0) _ rfl ?hrow Tryz.underlying42 rfl Tryz.size_letter) rfl ?fin
  case hrow =>
    simp [World.setCell, World.drew, World.drewN, Array.getElem?_modify, HROW.out]
  case fin =>
    refine ⟨rfl, HM.out.step (S := []) (T := [p]) ?_ (fun x hx => .inr (by simp at hx; have := HPE.out; omega))⟩
    repeat (first | with_reducible exact Mod.refl _ _ | with_reducible refine Mod.drew ?_ | with_reducible refine Mod.setCell ?_ (.inl (by simp)) _)

set_option maxRecDepth 100000 in
set_option maxHeartbeats 8000000 in
theorem tell_is (t : Nat) (s s' : TS) (L : List Let) (kd fr to' : Nat) (seq id0 ms0 bal old nid nms cut : Int) (hme : s'.me = s.me)
    (HA : Gives1 t s s' [] 78 #[.pointer (some ⟨t, 0, none⟩), .int .i64 s.me, .agg #[.int .i64 kd, .int .i64 fr, .int .i64 to', .int .u64 seq, .int .i64 0, .slice none 0 0, .int .u64 id0, .int .u64 ms0, .int .u64 bal, .int .u64 old, .int .u64 nid, .int .u64 nms, .int .u64 cut, .slice none 0 0, .slice none 0 0, .float .f64 0]])
    (HT : Gives1 t s' s' L 79 #[.pointer (some ⟨t, 0, none⟩), .agg #[.int .i64 kd, .int .i64 fr, .int .i64 to', .int .u64 seq, .int .i64 0, .slice none 0 0, .int .u64 id0, .int .u64 ms0, .int .u64 bal, .int .u64 old, .int .u64 nid, .int .u64 nms, .int .u64 cut, .slice none 0 0, .slice none 0 0, .float .f64 0], .int .u64 7]) (hL : L.length ≤ 1000) (hL0 : L ≠ []) :
    Gives1 t s s' L 34 #[.pointer (some ⟨t, 0, none⟩), .agg #[.int .i64 kd, .int .i64 fr, .int .i64 to', .int .u64 seq, .int .i64 0, .slice none 0 0, .int .u64 id0, .int .u64 ms0, .int .u64 bal, .int .u64 old, .int .u64 nid, .int .u64 nms, .int .u64 cut, .slice none 0 0, .slice none 0 0, .float .f64 0]] := by
  intro w h
  have hm := (Mod.refl [] w).alloc (.cells #[.int .i64 kd, .int .i64 fr, .int .i64 to', .int .u64 seq, .int .i64 0, .slice none 0 0, .int .u64 id0, .int .u64 ms0, .int .u64 bal, .int .u64 old, .int .u64 nid, .int .u64 nms, .int .u64 cut, .slice none 0 0, .slice none 0 0, .float .f64 0] 42)
  have HM := Lib.hid hm
  have HH := Lib.hid (h.mod0 hm)
  have htl : t ≠ w.heap.size := Nat.ne_of_lt h.1.lt
  have HROW := Lib.hid (heap_new w (.cells #[.int .i64 kd, .int .i64 fr, .int .i64 to', .int .u64 seq, .int .i64 0, .slice none 0 0, .int .u64 id0, .int .u64 ms0, .int .u64 bal, .int .u64 old, .int .u64 nid, .int .u64 nms, .int .u64 cut, .slice none 0 0, .slice none 0 0, .float .f64 0] 42))
  have HHA := Lib.hid HA
  have HHT := Lib.hid HT
  have HME := Lib.hid hme
  have HLN := Lib.hid hL
  have HL0 := Lib.hid hL0
  clear h hm HA HT hme hL hL0
  go_enter Tryz.func34, Tryz.ntmps34
  go_wp2_with fail
  generalize w.alloc (.cells #[.int .i64 kd, .int .i64 fr, .int .i64 to', .int .u64 seq, .int .i64 0, .slice none 0 0, .int .u64 id0, .int .u64 ms0, .int .u64 bal, .int .u64 old, .int .u64 nid, .int .u64 nms, .int .u64 cut, .slice none 0 0, .slice none 0 0, .float .f64 0] 42) = W at HM HH HROW ⊢
  obtain ⟨p, hp⟩ : ∃ p, w.heap.size = p := ⟨_, rfl⟩
  rw [hp] at HROW htl ⊢
  clear hp
  obtain ⟨d0, d1, d2, d3, d4, d5, d6, d7, d8, d9, d10, d11, d12, d13, d14, d15⟩ := let_cells HROW.out
  have k4 := HH.out.1.k4
  have k6 := HH.out.1.k6
  obtain ⟨me, he⟩ : ∃ me, s.me = me := ⟨_, rfl⟩
  rw [he] at k4 HHA
  have HE := Lib.hid he
  clear he
  go_region_held3 (fun w' => w'.cell? ⟨p, 0, none⟩ = some (.int .i64 kd) ∧ w'.cell? ⟨p, 1, none⟩ = some (.int .i64 fr) ∧ w'.cell? ⟨p, 2, none⟩ = some (.int .i64 to') ∧ w'.cell? ⟨p, 3, none⟩ = some (.int .u64 seq) ∧ w'.cell? ⟨p, 4, none⟩ = some (.int .i64 0) ∧ w'.cell? ⟨p, 5, none⟩ = some (.slice none 0 0) ∧ w'.cell? ⟨p, 6, none⟩ = some (.int .u64 id0) ∧ w'.cell? ⟨p, 7, none⟩ = some (.int .u64 ms0) ∧ w'.cell? ⟨p, 8, none⟩ = some (.int .u64 bal) ∧ w'.cell? ⟨p, 9, none⟩ = some (.int .u64 old) ∧ w'.cell? ⟨p, 10, none⟩ = some (.int .u64 nid) ∧ w'.cell? ⟨p, 11, none⟩ = some (.int .u64 nms) ∧ w'.cell? ⟨p, 12, none⟩ = some (.int .u64 cut) ∧ w'.cell? ⟨p, 13, none⟩ = some (.slice none 0 0) ∧ w'.cell? ⟨p, 14, none⟩ = some (.slice none 0 0) ∧ w'.cell? ⟨p, 15, none⟩ = some (.float .f64 0) ∧ w'.cell? ⟨t, 4, none⟩ = some (.int .i64 me) ∧ w'.cell? ⟨t, 6, none⟩ = some (.int .u64 7)) (first | exact ⟨d0, d1, d2, d3, d4, d5, d6, d7, d8, d9, d10, d11, d12, d13, d14, d15, k4, k6⟩ | exact ⟨HX5.out.1.at d0 (by simpa using htl.symm), HX5.out.1.at d1 (by simpa using htl.symm), HX5.out.1.at d2 (by simpa using htl.symm), HX5.out.1.at d3 (by simpa using htl.symm), HX5.out.1.at d4 (by simpa using htl.symm), HX5.out.1.at d5 (by simpa using htl.symm), HX5.out.1.at d6 (by simpa using htl.symm), HX5.out.1.at d7 (by simpa using htl.symm), HX5.out.1.at d8 (by simpa using htl.symm), HX5.out.1.at d9 (by simpa using htl.symm), HX5.out.1.at d10 (by simpa using htl.symm), HX5.out.1.at d11 (by simpa using htl.symm), HX5.out.1.at d12 (by simpa using htl.symm), HX5.out.1.at d13 (by simpa using htl.symm), HX5.out.1.at d14 (by simpa using htl.symm), HX5.out.1.at d15 (by simpa using htl.symm), HX5.out.2.1, HX5.out.2.2⟩ | exact ⟨HX6.out.1.at d0 (by simpa using htl.symm), HX6.out.1.at d1 (by simpa using htl.symm), HX6.out.1.at d2 (by simpa using htl.symm), HX6.out.1.at d3 (by simpa using htl.symm), HX6.out.1.at d4 (by simpa using htl.symm), HX6.out.1.at d5 (by simpa using htl.symm), HX6.out.1.at d6 (by simpa using htl.symm), HX6.out.1.at d7 (by simpa using htl.symm), HX6.out.1.at d8 (by simpa using htl.symm), HX6.out.1.at d9 (by simpa using htl.symm), HX6.out.1.at d10 (by simpa using htl.symm), HX6.out.1.at d11 (by simpa using htl.symm), HX6.out.1.at d12 (by simpa using htl.symm), HX6.out.1.at d13 (by simpa using htl.symm), HX6.out.1.at d14 (by simpa using htl.symm), HX6.out.1.at d15 (by simpa using htl.symm), HX6.out.2.1, HX6.out.2.2⟩ | exact ⟨HX7.out.1.at d0 (by simpa using htl.symm), HX7.out.1.at d1 (by simpa using htl.symm), HX7.out.1.at d2 (by simpa using htl.symm), HX7.out.1.at d3 (by simpa using htl.symm), HX7.out.1.at d4 (by simpa using htl.symm), HX7.out.1.at d5 (by simpa using htl.symm), HX7.out.1.at d6 (by simpa using htl.symm), HX7.out.1.at d7 (by simpa using htl.symm), HX7.out.1.at d8 (by simpa using htl.symm), HX7.out.1.at d9 (by simpa using htl.symm), HX7.out.1.at d10 (by simpa using htl.symm), HX7.out.1.at d11 (by simpa using htl.symm), HX7.out.1.at d12 (by simpa using htl.symm), HX7.out.1.at d13 (by simpa using htl.symm), HX7.out.1.at d14 (by simpa using htl.symm), HX7.out.1.at d15 (by simpa using htl.symm), HX7.out.2.1, HX7.out.2.2⟩) ((first | (go_at_call 78; refine (HHA.out _ (HH.out.mod0 (Mod.refl [] _).drew)).mono ?_; rintro _ w5 ⟨v5, rfl, hO5⟩; have hn5 := hO5.2.1 rfl; subst hn5; have j4 := hO5.2.2.1.1.k4; rw [HME.out, HE.out] at j4; have HX5 := Lib.hid (And.intro ((Mod.refl [t] W).drew.trans hO5.2.2.2) (And.intro j4 hO5.2.2.1.1.k6)); have HO5 := Lib.hid hO5; clear hO5 j4) | (go_at_call 79; refine (HHT.out _ HO5.out.2.2.1).mono ?_; rintro _ w6 ⟨v6, rfl, hO6⟩; have j4 := hO6.2.2.1.1.k4; rw [HME.out, HE.out] at j4; have HX6 := Lib.hid (And.intro (HX5.out.1.trans hO6.2.2.2) (And.intro j4 hO6.2.2.1.1.k6)); have HO6 := Lib.hid hO6; have hap := letters_append w6 W.heap.size (.slice none 0 0) v6 [] L (Lets.nil _ _) hO6.1.read (show ([] : List Let).length + L.length ≤ 1000 by simpa using HLN.out) HX6.out.1.size; obtain ⟨v7, w7, hrun, hL7, hg7⟩ := hap; have hm7 := (Mod.refl [] w6).grown_none hg7; have h7 := hO6.2.2.1.mod0 hm7; have j4 := h7.1.k4; rw [HME.out, HE.out] at j4; have HX7 := Lib.hid (And.intro (HX6.out.1.trans (hm7.mono (by simp))) (And.intro j4 h7.1.k6)); have HL7 := Lib.hid (And.intro hL7 (And.intro h7 hm7)); have HRUN := Lib.hid hrun; clear hO6 hL7 hg7 hm7 h7 j4 hrun) | (refine step_append_run rfl (.tmp 11) (.tmp 19) 30 rfl (.slice none 0 0) v6 v7 w7 rfl rfl HRUN.out ?_)))
  have HF := Lib.hid (And.intro HL7.out HX7.out.1)
  clear d0 d1 d2 d3 d4 d5 d6 d7 d8 d9 d10 d11 d12 d13 d14 d15 k4 k6 HX5 HX6 HX7 HL7 HO5 HO6
  go_wp2_with fail
  go_ret
  exact ⟨v7, rfl, HF.out.1.1.base HM.out.size, fun e => absurd e HL0.out, HF.out.1.2.1, (HM.out.mono (by simp)).trans HF.out.2⟩

end Go.Proofs.YtaaaiggbnkeblaaGreatDoor
