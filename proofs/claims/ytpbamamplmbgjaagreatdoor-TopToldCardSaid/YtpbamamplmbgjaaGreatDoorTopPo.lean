/-
  The walk of a cloud's poll: no event, one event.
-/
import Derived.Test.YtpbamamplmbgjaaGreatDoorTopEn
import Derived.Test.YtpbamamplmbgjaaGreatDoorTopX
namespace Go.Proofs.YtpbamamplmbgjaaGreatDoor
set_option linter.unusedSimpArgs false
set_option linter.unusedVariables false
open Go.RowKit

set_option maxRecDepth 100000 in
set_option maxHeartbeats 4000000 in
theorem cpoll_nil (c N D K : Nat) (l tr : Value) (sit : Option Addr) (was : Int) (w : World) (h : CloudAt w c N l tr) (hn : NodeAt w N D K sit (.slice none 0 0) was) :
    Calls Tryz.prog 90 #[.pointer (some ⟨c, 0, none⟩)] w fun e w' => e = .returned (.tuple #[]) ∧ NodeAt w' N D K sit (.slice none 0 0) was ∧ Mod [N] w w' := by
  have HN := Lib.hid hn
  have c0 := h.c0
  have n1 := h.n
  clear h hn
  go_enter Tryz.func90, Tryz.ntmps90
  go_wp2_with fail
  go_region
  go_wp2_with fail
  refine wp_loop_rounds 2 ?_
  rw [rounds_succ]
  go_wp2_with fail
  refine (npoll_any N D K sit (.slice none 0 0) was _ (HN.out.mod (Mod.refl [] _).drew (by simp))).mono ?_
  rintro e w1 ⟨rfl, hn1, hm1⟩
  have H1 := Lib.hid (And.intro hn1 ((Mod.refl [N] w).drew.trans hm1))
  clear hn1 hm1 c0 n1
  go_wp2_with fail
  refine wp_loop_rounds 1 ?_
  rw [rounds_succ]
  go_wp2_with fail
  rw [rounds_succ]
  go_wp2
  refine bodyPost_end (results_none rfl _ _ _) rfl ?_
  exact ⟨rfl, H1.out.1, H1.out.2⟩

/-- An event's cells. -/
def evcells (e : Ent) : List Value := [.int .i64 e.kind, .int .u64 e.id, .int .u64 e.ms, .int .u64 e.n, .int .i64 e.s, .int .u64 e.num, .string e.t]
theorem infoCEntry : ∃ i, Tryz.prog.info? 197 = some i ∧ i.zero = some (.agg #[.int .i64 0, .bool false, .int .i64 0, .int .u64 0, .int .u64 0, .int .u64 0, .int .i64 0, .int .u64 0, .string ⟨#[]⟩]) ∧ i.size = 9 ∧ i.bytes ≤ 128 := by
  have h : (Tryz.prog.info? 197).map (fun i => (i.zero, i.size, decide (i.bytes ≤ 128))) = some (some (.agg #[.int .i64 0, .bool false, .int .i64 0, .int .u64 0, .int .u64 0, .int .u64 0, .int .i64 0, .int .u64 0, .string ⟨#[]⟩]), 9, true) := by kernel_rfl
  cases hi : Tryz.prog.info? 197 with
  | none => rw [hi] at h; cases h
  | some i =>
    rw [hi] at h
    simp at h
    exact ⟨i, rfl, h.1, h.2.1, h.2.2⟩
theorem Mod.grownRow {S : List Nat} {a w w' : World} {r : Option Nat} (h : Mod S a w) (hg : w.grownBy w' r) (hs : ∀ b, r = some b → b ∈ S ∨ a.heap.size ≤ b) : Mod S a w' :=
  ⟨hg.os.trans h.os, hg.tape.trans h.tape, hg.output.trans h.output, Nat.le_trans h.size hg.size, fun k hk hks => (hg.block k (Nat.lt_of_lt_of_le hk h.size) (fun e => by
    rcases hs k e.symm with h1 | h1
    · exact hks h1
    · omega)).trans (h.block k hk hks)⟩

def PollPost (w : World) (c N D K : Nat) (l tr : Value) (sit : Option Addr) (was : Int) (B : Nat) (es : List Ent) (e0 : Ent) (e : Ending) (w' : World) : Prop :=
  e = .returned (.tuple #[]) ∧ ∃ tr', CloudAt w' c N l tr' ∧ NodeAt w' N D K sit (.slice none 0 0) was ∧ w'.ownsRow B 197 9 tr' (es.length + 1) (eflat (es ++ [e0])) ∧ Mod (c :: N :: tr.ownBlock.toList) w w'

set_option maxRecDepth 100000 in
set_option maxHeartbeats 8000000 in
theorem cpoll_one (c N D K g cap B : Nat) (l tr : Value) (sit : Option Addr) (was : Int) (es : List Ent) (kind id ms n s num : Int) (t : ByteArray) (w : World) (h : CloudAt w c N l tr) (hn : NodeAt w N D K sit (.slice (some ⟨g, 0, none⟩) 1 cap) was)
    (hg : ∀ j v, (evcells ⟨0, false, kind, id, ms, n, s, num, t⟩)[j]? = some v → w.cell? ⟨g, j, none⟩ = some v) (htr : w.ownsRow B 197 9 tr es.length (eflat es)) (hl : es.length ≤ 100) (hB : c < B ∧ N < B ∧ B ≤ w.heap.size ∧ c ≠ N ∧ g ≠ N) :
    Calls Tryz.prog 90 #[.pointer (some ⟨c, 0, none⟩)] w (PollPost w c N D K l tr sit was B es ⟨0, false, kind, id, ms, n, s, num, t⟩) := by
  have HN := Lib.hid hn
  have HC := Lib.hid h
  have HG := Lib.hid hg
  have HTR := Lib.hid htr
  have HB := Lib.hid hB
  obtain ⟨ie, hie, hiz, his, hib⟩ := infoCEntry
  have c0 := h.c0
  have n1 := h.n
  clear h hn hg htr hB
  go_enter Tryz.func90, Tryz.ntmps90
  go_wp2_with fail
  go_region
  go_wp2_with fail
  refine wp_loop_rounds 2 ?_
  rw [rounds_succ]
  go_wp2_with fail
  refine (npoll_any N D K sit _ was _ (HN.out.mod (Mod.refl [] _).drew (by simp))).mono ?_
  rintro e w1 ⟨rfl, hn1, hm1⟩
  have hm2 := (Mod.refl [N] w).drew.trans hm1
  have HN1 := Lib.hid hn1
  have HM1 := Lib.hid hm2
  have HC1 := Lib.hid (HC.out.mod hm2 (by have := HB.out; simp; omega))
  have HTR1 := Lib.hid (ownsRow_mod HTR.out hm2 (fun b hb => by have := (ownsRow_ge HTR.out b hb).1; have := HB.out; simp; omega))
  have G : ∀ j v, (evcells ⟨0, false, kind, id, ms, n, s, num, t⟩)[j]? = some v → w1.cell? ⟨g, j, none⟩ = some v := fun j v hj => hm2.at (HG.out j v hj) (by have := HB.out; simpa using this.2.2.2.2)
  have g0 := G 0 _ rfl
  have g1 := G 1 _ rfl
  have g2 := G 2 _ rfl
  have g3 := G 3 _ rfl
  have g4 := G 4 _ rfl
  have g5 := G 5 _ rfl
  have g6 := G 6 _ rfl
  clear G hn1 hm1 hm2 c0 n1 HG
  go_wp2_with fail
  refine wp_loop_rounds 2 ?_
  rw [rounds_succ]
  go_wp2_with fail
  have hrow := heap_new w1 (.cells #[.int .i64 kind, .int .u64 id, .int .u64 ms, .int .u64 n, .int .i64 s, .int .u64 num, .string t] 195)
  have hmw := (Mod.refl [] w1).alloc (.cells #[.int .i64 kind, .int .u64 id, .int .u64 ms, .int .u64 n, .int .i64 s, .int .u64 num, .string t] 195)
  have h1b : ∀ b, tr.ownBlock = some b → b < w1.heap.size := fun b hb => (ownsRow_ge HTR1.out b hb).2
  have HCW := Lib.hid (HC1.out.mod hmw (by simp))
  have HNW := Lib.hid (HN1.out.mod hmw (by simp))
  have HTW := Lib.hid (ownsRow_mod HTR1.out hmw (by simp))
  have HMW := Lib.hid (HM1.out.trans (hmw.mono (by simp)))
  generalize w1.alloc (.cells #[.int .i64 kind, .int .u64 id, .int .u64 ms, .int .u64 n, .int .i64 s, .int .u64 num, .string t] 195) = W at hrow HCW HNW HTW HMW ⊢
  clear hmw
  generalize w1.heap.size = b5 at hrow h1b ⊢
  have hob : b5 ∉ tr.ownBlock.toList := by
    intro hb
    rw [Option.mem_toList] at hb
    exact absurd (h1b b5 hb) (by omega)
  have hoc : c ∉ tr.ownBlock.toList := by
    intro hb
    rw [Option.mem_toList] at hb
    have := (ownsRow_ge HTW.out c hb).1
    have := HB.out
    omega
  have x0 := cell_in hrow (j := 0) rfl
  have x1 := cell_in hrow (j := 1) rfl
  have x2 := cell_in hrow (j := 2) rfl
  have x3 := cell_in hrow (j := 3) rfl
  have x4 := cell_in hrow (j := 4) rfl
  have x5 := cell_in hrow (j := 5) rfl
  have x6 := cell_in hrow (j := 6) rfl
  have xt := HCW.out.trace
  have hcl := HCW.out.lt
  have hxf := HCW.out.free 68
  have hk : ∀ w', Mod tr.ownBlock.toList W w' → w'.cell? ⟨c, 68, none⟩ = some tr ∧ w'.cell? ⟨b5, 0, none⟩ = some (.int .i64 kind) ∧ w'.cell? ⟨b5, 1, none⟩ = some (.int .u64 id) ∧ w'.cell? ⟨b5, 2, none⟩ = some (.int .u64 ms) ∧ w'.cell? ⟨b5, 3, none⟩ = some (.int .u64 n) ∧ w'.cell? ⟨b5, 4, none⟩ = some (.int .i64 s) ∧ w'.cell? ⟨b5, 5, none⟩ = some (.int .u64 num) ∧ w'.cell? ⟨b5, 6, none⟩ = some (.string t) := fun w' hm =>
    ⟨hm.at xt hoc, hm.at x0 hob, hm.at x1 hob, hm.at x2 hob, hm.at x3 hob, hm.at x4 hob, hm.at x5 hob, hm.at x6 hob⟩
  have KEEP := Lib.hid hk
  have HOC := Lib.hid hoc
  have HON := Lib.hid (show N ∉ tr.ownBlock.toList from by
    intro hb
    rw [Option.mem_toList] at hb
    have := (ownsRow_ge HTW.out N hb).1
    have := HB.out
    omega)
  have HXF := Lib.hid hxf
  have HCL := Lib.hid hcl
  clear hk hoc hob x0 x1 x2 x3 x4 x5 x6 xt hrow h1b hcl hxf HC1 HN1 HTR1 HM1 g0 g1 g2 g3 g4 g5 g6
  have HEV := Lib.hid (World.news_of_block (heap_new_drew W (.cells #[.int .i64 0, .bool false, .int .i64 kind, .int .u64 id, .int .u64 ms, .int .u64 n, .int .i64 s, .int .u64 num, .string t] 197)))
  have hbase : B ≤ ((W.alloc (.cells #[.int .i64 0, .bool false, .int .i64 kind, .int .u64 id, .int .u64 ms, .int .u64 n, .int .i64 s, .int .u64 num, .string t] 197)).drew).heap.size := by
    have := HMW.out.size
    have := HB.out
    simp
    omega
  have hown2 := ownsRow_mod HTW.out ((Mod.refl [] W).alloc (.cells #[.int .i64 0, .bool false, .int .i64 kind, .int .u64 id, .int .u64 ms, .int .u64 n, .int .i64 s, .int .u64 num, .string t] 197)).drew (by simp)
  have hby : (es.length + 1) * ie.bytes ≤ 140737488355328 := by
    have := Nat.mul_le_mul (show es.length + 1 ≤ 101 by omega) hib
    omega
  have hmx : es.length + 1 ≤ maxLen := by
    unfold maxLen
    omega
  have HAR := Lib.hid (And.intro hbase (And.intro hown2 (And.intro hby hmx)))
  clear hbase hown2 hby hmx
  obtain ⟨xt, x0, x1, x2, x3, x4, x5, x6⟩ := KEEP.out W (Mod.refl _ _)
  have hcl := HCL.out
  have hxf := HXF.out
  have hb5 : b5 < W.heap.size := cell_lt' x0
  go_region_law (refine step_append_lies _ rfl (.tmp 31) (.tmp 35) 112 rfl B 197 ie _ 9 ie.bytes Tryz.underlying112 hie hiz his rfl rfl (by decide) tr es.length (eflat es) (by simp [Act.eval, Act.put]) HAR.out.2.1 ⟨W.heap.size, 0, none⟩ 1 1 (ecells ⟨0, false, kind, id, ms, n, s, num, t⟩) (by simp [Act.eval, Act.put]) rfl HEV.out (ecells_one _) (by decide) HAR.out.2.2.2 HAR.out.2.2.1 HAR.out.1 _ rfl ?_; intro g' cap' w2 hown hgrow hat hlt2; have HMG := Lib.hid (show Mod tr.ownBlock.toList W w2 from Mod.grownRow (by repeat (first | with_reducible exact Mod.refl _ _ | with_reducible refine Mod.drew ?_ | with_reducible refine Mod.alloc ?_ _)) hgrow (fun b hb => .inl (by rw [hb]; simp))); have HO := Lib.hid hown; have k68 := (KEEP.out _ HMG.out).1; have kf := (HMG.out.frozen (p := ⟨c, 68, none⟩) HCL.out HOC.out).trans HXF.out; clear hown hgrow hat hlt2)
  all_goals
    clear xt x0 x1 x2 x3 x4 x5 x6 hcl hxf hb5
    go_wp2_with fail
    rw [rounds_succ]
    go_wp2_with fail
    rw [rounds_succ]
    go_wp2
    refine bodyPost_end (results_none rfl _ _ _) rfl ?_
    have hB := HB.out
    have hmf : Mod (c :: N :: tr.ownBlock.toList) W (w2.setCell ⟨c, 68, none⟩ (.slice (some ⟨g', 0, none⟩) (es.length + 1) cap')) := (HMG.out.mono (fun k _ hk => by simp only [List.mem_cons]; exact .inr (.inr hk))).setCell (.inl (by simp)) _
    have hsc : Mod [c] w2 (w2.setCell ⟨c, 68, none⟩ (.slice (some ⟨g', 0, none⟩) (es.length + 1) cap')) := (Mod.refl _ _).setCell (.inl (by simp)) _
    refine ⟨rfl, _, (HCW.out.mod HMG.out HOC.out).setTrace _, (HNW.out.mod HMG.out HON.out).mod hsc (by simp; omega), ?_, (HMW.out.mono (fun k _ hk => by simp at hk; simp [hk])).trans hmf⟩
    rw [eflat_app]
    exact ownsRow_mod HO.out hsc (fun b hb => by have := (ownsRow_ge HO.out b hb).1; simp; omega)

end Go.Proofs.YtpbamamplmbgjaaGreatDoor
