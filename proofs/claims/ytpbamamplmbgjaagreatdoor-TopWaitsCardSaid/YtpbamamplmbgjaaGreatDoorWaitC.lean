/-
  The walks of package doubt at one doubt: All, Drop, Over; of slices.Sort at one number.
-/
import Derived.Test.YtpbamamplmbgjaaGreatDoorWaitB
import Derived.Test.YtpbamamplmbgjaaGreatDoorTopDe
import Derived.Deep.AppendLies
namespace Go.Proofs.YtpbamamplmbgjaaGreatDoor
set_option linter.unusedSimpArgs false
set_option linter.unusedVariables false
open Go.RowKit

set_option maxHeartbeats 1000000 in
theorem isorti_one (a : Option Addr) (c : Nat) (w : World) : Calls Tryz.prog 228 #[.slice a 1 c, .int .i64 0, .int .i64 1] w fun e w' => e = .returned (.tuple #[]) ∧ w = w' := by
  go_enter Tryz.func228, Tryz.ntmps228
  go_wp2_with fail
  refine wp_loop_rounds 1 ?_
  rw [rounds_succ]
  go_wp2_with fail
  refine bodyPost_end (results_none rfl _ _ _) rfl ?_
  exact ⟨rfl, rfl⟩

set_option maxRecDepth 100000 in
set_option maxHeartbeats 2000000 in
theorem pdqi_one (a : Option Addr) (c : Nat) (n : Int) (w : World) : Calls Tryz.prog 162 #[.slice a 1 c, .int .i64 0, .int .i64 1, .int .i64 n] w fun e w' => e = .returned (.tuple #[]) ∧ w = w' := by
  go_enter Tryz.func162, Tryz.ntmps162
  go_wp2_with fail
  refine wp_loop_rounds 1 ?_
  rw [rounds_succ]
  go_wp2_with fail
  refine (isorti_one a c _).mono ?_
  rintro e w1 ⟨rfl, rfl⟩
  go_wp2_with fail
  refine bodyPost_ret (results_none rfl _ _ _) rfl ?_
  exact ⟨rfl, rfl⟩

theorem sorti_one (a : Option Addr) (c : Nat) (w : World) : Calls Tryz.prog 111 #[.slice a 1 c] w fun e w' => e = .returned (.tuple #[]) ∧ w = w' := by
  go_enter Tryz.func111, Tryz.ntmps111
  go_wp2_with fail
  refine (len_one _).mono ?_
  rintro e w1 ⟨rfl, rfl⟩
  go_wp2_with fail
  refine (pdqi_one a c 1 _).mono ?_
  rintro e w1 ⟨rfl, rfl⟩
  go_wp2_with fail
  refine bodyPost_end (results_none rfl _ _ _) rfl ?_
  exact ⟨rfl, rfl⟩

/-- 'append(l, x)', l of none: a row of its own that bears x. -/
theorem wpList_append_first {P : Program} {w : World} {ops : Array Oper} {rest : List Oper} {o : Oper} {a : Act} {Q : Exit → Act → World → Prop} (hgd : o.guard = none) (s x : Operand) (t : TypeId)
    (ho : o.op = .call { callee := .builtin .append, args := #[s, x], argTypes := #[t, t] })
    (e : TypeId) (i : TypeInfo) (z : Value) (size : Nat) (ht : P.underlying t = some (.slice e)) (hi : P.info? e = some i) (hz : i.zero = some z)
    (hsize : i.size = size) (hzs : z.cells.size = size) (hsz : 0 < size) (hbd : i.bytes ≤ 1000) (hs : a.eval s = .slice none 0 0)
    (ad : Addr) (c : Nat) (news : List Value) (hx : a.eval x = .slice (some ad) 1 c) (hl : news.length = size) (hnews : ∀ j u, news[j]? = some u → w.cell? (ad.add j) = some u) (h1 : ∀ u ∈ news, u.oneCell' = true)
    (h : ∀ g cap w', (∀ j v, news[j]? = some v → w'.cell? ⟨g, j, none⟩ = some v) → w.heap.size ≤ g → Mod [] w w' → wpList P ops Q rest (a.put o.dst (.slice (some ⟨g, 0, none⟩) 1 cap)) w') : wpList P ops Q (o :: rest) a w := by
  refine wpList_append_lies w hgd s x t ho 0 e i z size i.bytes ht hi hz hsize rfl hzs hsz (.slice none 0 0) 0 [] hs ⟨by simp, .inl ⟨rfl, rfl⟩⟩ ad 1 c news hx (by omega) hnews h1 (by decide) (by unfold maxLen; omega) (by omega) (Nat.zero_le _) _ rfl ?_
  intro g cap w' hown hgr hat hlt
  refine h g cap w' (fun j v hj => ownsRow_cells hown j v (by simpa using hj)) ?_ (Mod.grown_none (Mod.refl [] w) hgr)
  rcases hat with h | h
  · cases h
  · omega

theorem infoDoubt : ∃ i, Tryz.prog.info? 134 = some i ∧ i.zero = some doubtZ ∧ i.size = 7 ∧ i.bytes ≤ 1000 := by
  have h : (Tryz.prog.info? 134).map (fun i => (i.zero, i.size, decide (i.bytes ≤ 1000))) = some (some doubtZ, 7, true) := by kernel_rfl
  cases hi : Tryz.prog.info? 134 with
  | none => rw [hi] at h; cases h
  | some i =>
    rw [hi] at h
    simp at h
    exact ⟨i, rfl, h.1, h.2.1, h.2.2⟩
theorem infoInt : ∃ i, Tryz.prog.info? 3 = some i ∧ i.zero = some (.int .i64 0) ∧ i.size = 1 ∧ i.bytes ≤ 1000 := by
  have h : (Tryz.prog.info? 3).map (fun i => (i.zero, i.size, decide (i.bytes ≤ 1000))) = some (some (.int .i64 0), 1, true) := by kernel_rfl
  cases hi : Tryz.prog.info? 3 with
  | none => rw [hi] at h; cases h
  | some i =>
    rw [hi] at h
    simp at h
    exact ⟨i, rfl, h.1, h.2.1, h.2.2⟩
theorem infoUpd1 : ∃ i, Tryz.prog.info? 24 = some i ∧ i.zero = some (.agg #[.int .i64 0, .int .u64 0, .int .i64 0]) ∧ i.size = 3 ∧ i.bytes ≤ 1000 := by
  have h : (Tryz.prog.info? 24).map (fun i => (i.zero, i.size, decide (i.bytes ≤ 1000))) = some (some (.agg #[.int .i64 0, .int .u64 0, .int .i64 0]), 3, true) := by kernel_rfl
  cases hi : Tryz.prog.info? 24 with
  | none => rw [hi] at h; cases h
  | some i =>
    rw [hi] at h
    simp at h
    exact ⟨i, rfl, h.1, h.2.1, h.2.2⟩

def OneDoubt (w : World) (b : Nat) (fr si tl un : Int) : Prop := w.heap[b]? = some (.map #[{ key := .int .i64 5, val := doubtV fr si tl un, born := 0 }] 1)
theorem OneDoubt.mod {w w' : World} {b : Nat} {fr si tl un : Int} {S : List Nat} (h : OneDoubt w b fr si tl un) (hM : Mod S w w') (hb : b ∉ S) : OneDoubt w' b fr si tl un := (hM.block b (Array.getElem?_eq_some_iff.1 h).1 hb).trans h
theorem OneDoubt.lt {w : World} {b : Nat} {fr si tl un : Int} (h : OneDoubt w b fr si tl un) : b < w.heap.size := (Array.getElem?_eq_some_iff.1 h).1
def doubtL (fr si tl un : Int) : List Value := [.int .i64 5, .int .u64 0, .int .i64 1, .int .u64 fr, .int .u64 si, .int .u64 tl, .int .u64 un]
def AllPost (w : World) (fr si tl un : Int) (e : Ending) (w' : World) : Prop := ∃ g cap, e = .returned (.slice (some ⟨g, 0, none⟩) 1 cap) ∧ (∀ j v, (doubtL fr si tl un)[j]? = some v → w'.cell? ⟨g, j, none⟩ = some v) ∧ w.heap.size ≤ g ∧ Mod [] w w'

set_option maxRecDepth 100000 in
set_option maxHeartbeats 4000000 in
theorem dall_one (d b : Nat) (fr si tl un : Int) (w : World) (hd : w.cell? ⟨d, 0, none⟩ = some (.map (some b))) (hb : OneDoubt w b fr si tl un) :
    Calls Tryz.prog 55 #[.pointer (some ⟨d, 0, none⟩)] w (AllPost w fr si tl un) := by
  obtain ⟨ii, hii, hiz, his, hib⟩ := infoInt
  obtain ⟨iu, hiu, huz, hus, hub⟩ := infoDoubt
  have hdl := block_lt_of_cell hd
  have hbl := hb.lt
  have hrg := mrun_range (P := Tryz.prog) (t := 47) (K := 3) (E := 134) Tryz.underlying47 hb
  obtain ⟨W2, hW2⟩ : ∃ W2, w.alloc (.mapIter (some b) 1 #[] 1) = W2 := ⟨_, rfl⟩
  have hm2 : Mod [] w W2 := by rw [← hW2]; exact (Mod.refl [] w).alloc _
  have hi2 : W2.heap[w.heap.size]? = some (.mapIter (some b) 1 #[] 1) := by rw [← hW2]; exact heap_new _ _
  have hb2 : OneDoubt W2 b fr si tl un := hb.mod hm2 (by simp)
  have hs2 : W2.heap.size = w.heap.size + 1 := by rw [← hW2]; simp
  have HD := Lib.hid hd
  have HB := Lib.hid hb
  have HBD := Lib.hid (And.intro hib hub)
  rw [hW2] at hrg
  clear hb hib hub
  go_enter Tryz.func55, Tryz.ntmps55
  go_wp2_with fail
  clear hrg hW2 hd
  obtain ⟨W3, hW3⟩ : ∃ W3, W2.putObj w.heap.size (.mapIter (some b) 1 #[0] 1) = W3 := ⟨_, rfl⟩
  have hnx := mrun_next_one (P := Tryz.prog) (ty := 0) hi2 (by omega) hb2
  have hi3 : W3.heap[w.heap.size]? = some (.mapIter (some b) 1 #[0] 1) := by rw [← hW3]; exact World.putObj_heap_same (by omega)
  have hm3 : Mod [] w W3 := by
    rw [← hW3]
    exact ⟨hm2.os, hm2.tape, hm2.output, by simpa using hm2.size, fun k hk _ => (World.putObj_heap_other (by omega)).trans (hm2.block k hk (by simp))⟩
  have hb3 : OneDoubt W3 b fr si tl un := HB.out.mod hm3 (by simp)
  have hen := mrun_entry_one (P := Tryz.prog) hi3 hb3
  rw [hW3] at hnx
  have HEV := Lib.hid (World.news_of_block (heap_new W3 (.cells #[.int .i64 5] 3)))
  have hma := (Mod.refl [] W3).alloc (.cells #[.int .i64 5] 3)
  have HMA := Lib.hid (And.intro hm3 hma)
  have HI3 := Lib.hid hi3
  have HS3 := Lib.hid (show W3.heap.size = w.heap.size + 1 by rw [← hW3]; simpa using hs2)
  clear hm2 hi2 hb2 hs2 hm3 hma hi3 hb3 hW3
  unfold doubtV at hnx hen
  refine wp_loop_rounds 2 ?_
  rw [rounds_succ]
  go_wp2_with (at_builtin; with_reducible refine wpList_append_first rfl (.tmp 16) (.tmp 18) 92 rfl 3 ii _ 1 Tryz.underlying92 hii hiz his rfl (by decide) HBD.out.1 rfl ⟨W3.heap.size, 0, none⟩ 1 [.int .i64 5] rfl rfl HEV.out (by simp [Value.oneCell']) ?_; intro g1 cap1 w4 hc4 hg4 hm4)
  clear hnx hen
  have hg4' : w.heap.size + 1 ≤ g1 := by have h1 := HS3.out; simp at hg4; omega
  have hmw := (HMA.out.2.trans hm4)
  have HM4 := Lib.hid (HMA.out.1.trans hmw)
  have hb4 : OneDoubt w4 b fr si tl un := HB.out.mod HM4.out (by simp)
  have hi4 : w4.heap[w.heap.size]? = some (.mapIter (some b) 1 #[0] 1) := row_mod hmw HI3.out (by simp)
  have hnx := mrun_next_end (P := Tryz.prog) (ty := 0) hi4 (by omega) hb4
  have HC4 := Lib.hid (hc4 0 _ rfl)
  clear hg4 hc4 hm4 hmw hi4
  rw [rounds_succ]
  go_wp2_with fail
  refine (sorti_one _ cap1 _).mono ?_
  rintro e w5 ⟨rfl, rfl⟩
  clear hnx
  go_wp2_with fail
  have c0 := HC4.out
  have d0 := HM4.out.at HD.out (by simp)
  have hlk := mrun_look_plain (P := Tryz.prog) (t := 47) Tryz.underlying47 Tryz.underlying3 hb4
  unfold doubtV at hlk
  have HEV2 := Lib.hid (World.news_of_block (heap_new w4 (.cells #[.int .i64 5, .int .u64 0, .int .i64 1, .int .u64 fr, .int .u64 si, .int .u64 tl, .int .u64 un] 134)))
  have HMA2 := Lib.hid ((Mod.refl [] w4).alloc (.cells #[.int .i64 5, .int .u64 0, .int .i64 1, .int .u64 fr, .int .u64 si, .int .u64 tl, .int .u64 un] 134))
  clear hb4
  have hz7 : doubtZ.cells.size = 7 := rfl
  refine wp_loop_rounds 2 ?_
  rw [rounds_succ]
  go_wp2_with (at_builtin; with_reducible refine wpList_append_first rfl (.tmp 28) (.tmp 35) 140 rfl 134 iu _ 7 Tryz.underlying140 hiu huz hus hz7 (by decide) HBD.out.2 rfl ⟨w4.heap.size, 0, none⟩ 1 [.int .i64 5, .int .u64 0, .int .i64 1, .int .u64 fr, .int .u64 si, .int .u64 tl, .int .u64 un] rfl rfl HEV2.out (by simp [Value.oneCell']) ?_; intro g2 cap2 w6 hc6 hg6 hm6)
  have HF := Lib.hid (And.intro hc6 (And.intro (show w.heap.size ≤ g2 from by have h1 := HM4.out.size; simp at hg6; omega) (HM4.out.trans (HMA2.out.trans hm6))))
  clear hc6 hg6 hm6 hlk d0 c0
  rw [rounds_succ]
  go_wp2_with fail
  go_ret
  exact ⟨g2, cap2, rfl, HF.out.1, HF.out.2.1, HF.out.2.2⟩

set_option maxRecDepth 100000 in
set_option maxHeartbeats 4000000 in
theorem ddrop_one (d b : Nat) (fr si tl un : Int) (w : World) (hd : w.cell? ⟨d, 0, none⟩ = some (.map (some b))) (hb : OneDoubt w b fr si tl un) :
    Calls Tryz.prog 56 #[.pointer (some ⟨d, 0, none⟩), .int .i64 5] w fun e w' => e = .returned (.bool true) ∧ Mod [b] w w' := by
  have hlk := mrun_look_one (P := Tryz.prog) (t := 47) Tryz.underlying47 Tryz.underlying3 hb
  unfold doubtV at hlk
  have HB := Lib.hid hb
  have HD := Lib.hid hd
  have hdl := block_lt_of_cell hd
  clear hb
  go_enter Tryz.func56, Tryz.ntmps56
  go_upto_region 2 with fail
  have hma := ((Mod.refl [] w).alloc (.cells #[.int .i64 5, .int .u64 0, .int .i64 1, .int .u64 fr, .int .u64 si, .int .u64 tl, .int .u64 un] 134))
  have d1 := hma.at HD.out (by simp)
  have hb1 : OneDoubt _ b fr si tl un := HB.out.mod hma (by simp)
  have HM := Lib.hid hma
  clear hma hlk hd
  generalize w.alloc (.cells #[.int .i64 5, .int .u64 0, .int .i64 1, .int .u64 fr, .int .u64 si, .int .u64 tl, .int .u64 un] 134) = W at d1 hb1 HM ⊢
  have hdel := fun t3 => mrun_delete_one (P := Tryz.prog) (t := 47) (t2 := 3) (t3 := t3) Tryz.underlying47 Tryz.underlying3 hb1
  have HMP := Lib.hid (show ∀ o, Mod [b] W (W.putObj b o) from fun o => ⟨rfl, rfl, rfl, by simp, fun k _ hk => World.putObj_heap_other (by simpa using hk)⟩)
  clear hb1
  go_wp2
  go_ret
  exact ⟨rfl, (HM.out.wide (by simp)).trans (HMP.out _)⟩

set_option maxRecDepth 100000 in
set_option maxHeartbeats 4000000 in
/-- Before its time: none is over. -/
theorem dover_not (d b : Nat) (fr si tl un now : Int) (hle : ¬ un ≤ now) (w : World) (hd : w.cell? ⟨d, 0, none⟩ = some (.map (some b))) (hb : OneDoubt w b fr si tl un) :
    Calls Tryz.prog 17 #[.pointer (some ⟨d, 0, none⟩), .int .u64 now] w fun e w' => e = .returned (.slice none 0 0) ∧ Mod [] w w' := by
  have HA := Lib.hid (dall_one d b fr si tl un w hd hb)
  clear hd hb
  go_enter Tryz.func17, Tryz.ntmps17
  go_wp2_with fail
  refine HA.out.mono ?_
  rintro _ w1 ⟨g, cap, rfl, hc, hg, hM⟩
  have c0 := hc 0 _ rfl
  have c1 := hc 1 _ rfl
  have c2 := hc 2 _ rfl
  have c3 := hc 3 _ rfl
  have c4 := hc 4 _ rfl
  have c5 := hc 5 _ rfl
  have c6 := hc 6 _ rfl
  have HM := Lib.hid (And.intro hM ((Mod.refl [] w1).alloc (.cells #[.int .i64 5, .int .u64 0, .int .i64 1, .int .u64 fr, .int .u64 si, .int .u64 tl, .int .u64 un] 134)))
  clear hc hg hM
  go_wp2_with fail
  refine wp_loop_rounds 2 ?_
  rw [rounds_succ]
  go_wp2_with fail
  rw [rounds_succ]
  go_wp2_with fail
  go_ret
  exact ⟨rfl, HM.out.1.trans HM.out.2⟩

def OverPost (w : World) (b : Nat) (e : Ending) (w' : World) : Prop := ∃ g cap, e = .returned (.slice (some ⟨g, 0, none⟩) 1 cap) ∧ (w'.cell? ⟨g, 0, none⟩ = some (.int .i64 5) ∧ w'.cell? ⟨g, 1, none⟩ = some (.int .u64 0) ∧ w'.cell? ⟨g, 2, none⟩ = some (.int .i64 3)) ∧ Mod [b] w w'

set_option maxRecDepth 100000 in
set_option maxHeartbeats 4000000 in
/-- At its time and behind: it is over. -/
theorem dover_yes (d b : Nat) (fr si tl un now : Int) (hle : un ≤ now) (w : World) (hd : w.cell? ⟨d, 0, none⟩ = some (.map (some b))) (hb : OneDoubt w b fr si tl un) :
    Calls Tryz.prog 17 #[.pointer (some ⟨d, 0, none⟩), .int .u64 now] w (OverPost w b) := by
  obtain ⟨iu, hiu, huz, hus, hub⟩ := infoUpd1
  have HUB := Lib.hid hub
  have HA := Lib.hid (dall_one d b fr si tl un w hd hb)
  have HD := Lib.hid hd
  have HB := Lib.hid hb
  clear hd hb hub
  go_enter Tryz.func17, Tryz.ntmps17
  go_wp2_with fail
  refine HA.out.mono ?_
  rintro _ w1 ⟨g, cap, rfl, hc, hg, hM⟩
  have c0 := hc 0 _ rfl
  have c1 := hc 1 _ rfl
  have c2 := hc 2 _ rfl
  have c3 := hc 3 _ rfl
  have c4 := hc 4 _ rfl
  have c5 := hc 5 _ rfl
  have c6 := hc 6 _ rfl
  have hma := (Mod.refl [] w1).alloc (.cells #[.int .i64 5, .int .u64 0, .int .i64 1, .int .u64 fr, .int .u64 si, .int .u64 tl, .int .u64 un] 134)
  have hmb := hma.alloc (.cells #[.int .i64 5, .int .u64 0, .int .i64 3] 24)
  have HEV := Lib.hid (World.news_of_block (heap_at (w1.alloc (.cells #[.int .i64 5, .int .u64 0, .int .i64 1, .int .u64 fr, .int .u64 si, .int .u64 tl, .int .u64 un] 134)) (.cells #[.int .i64 5, .int .u64 0, .int .i64 3] 24) (w1.heap.size + 1) (by simp)))
  have HM := Lib.hid (hM.trans hmb)
  have HX := Lib.hid (And.intro (hma.trans ((Mod.refl [] _).alloc (.cells #[.int .i64 5, .int .u64 0, .int .i64 3] 24))) (heap_new w1 (.cells #[.int .i64 5, .int .u64 0, .int .i64 1, .int .u64 fr, .int .u64 si, .int .u64 tl, .int .u64 un] 134)))
  clear hc hg hM hma hmb
  go_wp2_with fail
  refine wp_loop_rounds 2 ?_
  rw [rounds_succ]
  go_wp2_with (at_builtin; with_reducible refine wpList_append_first rfl (.tmp 18) (.tmp 26) 39 rfl 24 iu _ 3 Tryz.underlying39 hiu huz hus rfl (by decide) HUB.out rfl ⟨w1.heap.size + 1, 0, none⟩ 1 [.int .i64 5, .int .u64 0, .int .i64 3] rfl rfl HEV.out (by simp [Value.oneCell']) ?_; intro g2 cap2 w3 hc3 hg3 hm3; have x0 := hm3.at (((Mod.refl [] (w1.alloc (.cells #[.int .i64 5, .int .u64 0, .int .i64 1, .int .u64 fr, .int .u64 si, .int .u64 tl, .int .u64 un] 134))).alloc (.cells #[.int .i64 5, .int .u64 0, .int .i64 3] 24)).at (cell_in HX.out.2 (show (#[Value.int .i64 5, .int .u64 0, .int .i64 1, .int .u64 fr, .int .u64 si, .int .u64 tl, .int .u64 un] : Array Value)[0]? = some (.int .i64 5) from rfl)) (by simp)) (by simp))
  have hm := HM.out.trans hm3
  have hbl := HB.out.lt
  have hgb : b ≠ g2 := by have h1 := HM.out.size; simp at hg3 h1; omega
  refine (ddrop_one d b fr si tl un _ (hm.at HD.out (by simp)) (HB.out.mod hm (by simp))).mono ?_
  rintro _ w4 ⟨rfl, hM4⟩
  have HF := Lib.hid (And.intro (And.intro (hM4.at (hc3 0 _ rfl) (by simpa using hgb.symm)) (And.intro (hM4.at (hc3 1 _ rfl) (by simpa using hgb.symm)) (hM4.at (hc3 2 _ rfl) (by simpa using hgb.symm)))) ((hm.wide (T := [b]) (by simp)).trans hM4))
  clear hc3 hg3 hm3 hm hbl hgb hM4
  go_wp2_with fail
  rw [rounds_succ]
  go_wp2_with fail
  go_ret
  exact ⟨g2, cap2, rfl, HF.out.1, HF.out.2⟩

end Go.Proofs.YtpbamamplmbgjaaGreatDoor
