/-
  Rows of a trace's entries; the walk of conventicletop.theirs.
  The walk of a cloud's poll: no event, one event.
  The walk of conventicleref19.Texts.
-/
import Derived.Test.YtaaaiggbnkeblaaGreatDoorMTopN
import Derived.Test.YtaaaiggbnkeblaaGreatDoorMTopI
import Derived.Deep.RegionHeldLaw
import Derived.Deep.AppendLies
namespace Go.Proofs.YtaaaiggbnkeblaaGreatDoor
set_option linter.unusedSimpArgs false
set_option linter.unusedVariables false
open Go.RowKit

/-- An entry: node, sent, kind, the view's Id and members, N, the message's sender, number, text. -/
structure Ent where
  node : Int
  sent : Bool
  kind : Int
  id : Int
  ms : Int
  n : Int
  s : Int
  num : Int
  t : ByteArray
def ecells (e : Ent) : List Value := [.int .i64 e.node, .bool e.sent, .int .i64 e.kind, .int .u64 e.id, .int .u64 e.ms, .int .u64 e.n, .int .i64 e.s, .int .u64 e.num, .string e.t]
def eflat (es : List Ent) : List Value := es.flatMap ecells
theorem eflat_app (es : List Ent) (e : Ent) : eflat (es ++ [e]) = eflat es ++ ecells e := by simp [eflat]
theorem eflat_len (es : List Ent) : (eflat es).length = es.length * 9 := by
  induction es with
  | nil => rfl
  | cons e es ih =>
    have : eflat (e :: es) = ecells e ++ eflat es := by simp [eflat]
    rw [this, List.length_append, ih]
    simp [ecells]
    omega
/-- A slice's cells hold entries. -/
def RdEs (w : World) (g : Nat) (es : List Ent) : Prop := ∀ i e, es[i]? = some e → ∀ j v, (ecells e)[j]? = some v → w.cell? ⟨g, i * 9 + j, none⟩ = some v
theorem RdEs.mod {S : List Nat} {w w' : World} {g : Nat} {es : List Ent} (h : RdEs w g es) (hm : Mod S w w') (hs : g ∉ S) : RdEs w' g es := fun i e hi j v hj => hm.at (h i e hi j v hj) hs

theorem infoEntry : ∃ i, Tryz.prog.info? 169 = some i ∧ i.zero = some (.agg #[.int .i64 0, .bool false, .int .i64 0, .int .u64 0, .int .u64 0, .int .u64 0, .int .i64 0, .int .u64 0, .string ⟨#[]⟩]) ∧ i.size = 9 ∧ i.bytes ≤ 128 := by
  have h : (Tryz.prog.info? 169).map (fun i => (i.zero, i.size, decide (i.bytes ≤ 128))) = some (some (.agg #[.int .i64 0, .bool false, .int .i64 0, .int .u64 0, .int .u64 0, .int .u64 0, .int .i64 0, .int .u64 0, .string ⟨#[]⟩]), 9, true) := by kernel_rfl
  cases hi : Tryz.prog.info? 169 with
  | none => rw [hi] at h; cases h
  | some i =>
    rw [hi] at h
    simp at h
    exact ⟨i, rfl, h.1, h.2.1, h.2.2⟩

theorem ecells_one (e : Ent) : ∀ u ∈ ecells e, u.oneCell' = true := by
  intro u hu
  simp [ecells] at hu
  rcases hu with rfl | rfl | rfl | rfl | rfl | rfl | rfl | rfl | rfl <;> rfl

/-- How far theirs has come. -/
def ThRel (w : World) (es : List Ent) (u v : Value) (wr : World) : Prop :=
  ∃ j : Nat, v = .int .i64 j ∧ j ≤ es.length ∧ wr.ownsRow w.heap.size 169 9 u j (eflat (es.take j)) ∧ Mod [] w wr
def ThPost (w : World) (es : List Ent) (e : Ending) (w' : World) : Prop :=
  ∃ u, e = .returned u ∧ w'.ownsRow w.heap.size 169 9 u es.length (eflat es) ∧ Mod [] w w'

set_option maxRecDepth 100000 in
set_option maxHeartbeats 8000000 in
theorem theirs_any (g c : Nat) (es : List Ent) (w : World) (hr : RdEs w g es) (hl : es.length ≤ 1000) :
    Calls Tryz.prog 25 #[.slice (some ⟨g, 0, none⟩) es.length c] w (ThPost w es) := by
  have HR := Lib.hid hr
  clear hr
  obtain ⟨ie, hie, hiz, his, hib⟩ := infoEntry
  go_enter Tryz.func25, Tryz.ntmps25
  go_wp2_with fail
  go_loopw [3, 4] (fun u v wr => ThRel w es u v wr) (fun _ v _ => es.length - (intOf v).toNat)
  case atStart => exact ⟨0, rfl, Nat.zero_le _, ⟨rfl, .inr ⟨w.heap.size, 0, #[], rfl, Nat.le_refl _, heap_new _ _, Nat.le_refl _, by simp, rfl, rfl⟩⟩, (Mod.refl [] _).alloc _⟩
  case round =>
    obtain ⟨j, rfl, hj, hown, hM⟩ := hrel
    have HOWN := Lib.hid hown
    have HM := Lib.hid hM
    clear hown hM
    by_cases hlt : j < es.length
    · have hlt' : (j : Int) < es.length := by omega
      obtain ⟨e, he⟩ : ∃ e, es[j]? = some e := ⟨_, List.getElem?_eq_getElem hlt⟩
      have hk : ∀ w', Mod [] w w' → w'.cell? ⟨g, j * 9, none⟩ = some (.int .i64 e.node) ∧ w'.cell? ⟨g, j * 9 + 1, none⟩ = some (.bool e.sent) ∧ w'.cell? ⟨g, j * 9 + 2, none⟩ = some (.int .i64 e.kind) ∧ w'.cell? ⟨g, j * 9 + 2 + 1, none⟩ = some (.int .u64 e.id) ∧ w'.cell? ⟨g, j * 9 + 2 + 2, none⟩ = some (.int .u64 e.ms) ∧ w'.cell? ⟨g, j * 9 + 2 + 3, none⟩ = some (.int .u64 e.n) ∧ w'.cell? ⟨g, j * 9 + 2 + 4, none⟩ = some (.int .i64 e.s) ∧ w'.cell? ⟨g, j * 9 + 2 + 5, none⟩ = some (.int .u64 e.num) ∧ w'.cell? ⟨g, j * 9 + 2 + 6, none⟩ = some (.string e.t) := fun w' hm => by
        have h := HR.out.mod hm (by simp) j e he
        exact ⟨h 0 _ rfl, h 1 _ rfl, h 2 _ rfl, h 3 _ rfl, h 4 _ rfl, h 5 _ rfl, h 6 _ rfl, h 7 _ rfl, h 8 _ rfl⟩
      have KEEP := Lib.hid hk
      have HE := Lib.hid he
      clear hk he
      go_wp2_with fail
      have HEV := Lib.hid (World.news_of_block (heap_new_drew wr (.cells #[.int .i64 e.node, .bool e.sent, .int .i64 e.kind, .int .u64 e.id, .int .u64 e.ms, .int .u64 e.n, .int .i64 e.s, .int .u64 e.num, .string e.t] 169)))
      have hM0 := HM.out
      have hbase : w.heap.size ≤ ((wr.alloc (.cells #[.int .i64 e.node, .bool e.sent, .int .i64 e.kind, .int .u64 e.id, .int .u64 e.ms, .int .u64 e.n, .int .i64 e.s, .int .u64 e.num, .string e.t] 169)).drew).heap.size := by
        have := hM0.size
        simp
        omega
      have hown2 := ownsRow_mod HOWN.out ((Mod.refl [] wr).alloc (.cells #[.int .i64 e.node, .bool e.sent, .int .i64 e.kind, .int .u64 e.id, .int .u64 e.ms, .int .u64 e.n, .int .i64 e.s, .int .u64 e.num, .string e.t] 169)).drew (by simp)
      have hby : (j + 1) * ie.bytes ≤ 140737488355328 := by
        have := Nat.mul_le_mul (show j + 1 ≤ 1001 by omega) hib
        omega
      have hmx : j + 1 ≤ maxLen := by
        unfold maxLen
        omega
      have HAR := Lib.hid (And.intro hbase (And.intro hown2 (And.intro hby hmx)))
      clear hbase hown2 hby hmx
      go_region_held_law (fun w' => w'.cell? ⟨g, j * 9, none⟩ = some (.int .i64 e.node) ∧ w'.cell? ⟨g, j * 9 + 1, none⟩ = some (.bool e.sent) ∧ w'.cell? ⟨g, j * 9 + 2, none⟩ = some (.int .i64 e.kind) ∧ w'.cell? ⟨g, j * 9 + 2 + 1, none⟩ = some (.int .u64 e.id) ∧ w'.cell? ⟨g, j * 9 + 2 + 2, none⟩ = some (.int .u64 e.ms) ∧ w'.cell? ⟨g, j * 9 + 2 + 3, none⟩ = some (.int .u64 e.n) ∧ w'.cell? ⟨g, j * 9 + 2 + 4, none⟩ = some (.int .i64 e.s) ∧ w'.cell? ⟨g, j * 9 + 2 + 5, none⟩ = some (.int .u64 e.num) ∧ w'.cell? ⟨g, j * 9 + 2 + 6, none⟩ = some (.string e.t)) (exact KEEP.out _ (by repeat (first | with_reducible exact HMG.out | with_reducible exact hM0 | with_reducible refine Mod.drew ?_ | with_reducible refine Mod.alloc ?_ _))) ((refine step_append_lies _ rfl (.tmp 12) (.tmp 29) 99 rfl w.heap.size 169 ie _ 9 ie.bytes Tryz.underlying99 hie hiz his rfl rfl (by decide) u3 j (eflat (es.take j)) rfl HAR.out.2.1 ⟨wr.heap.size, 0, none⟩ 1 1 (ecells e) rfl rfl HEV.out (ecells_one e) (by decide) HAR.out.2.2.2 HAR.out.2.2.1 HAR.out.1 _ rfl ?_; intro g' cap w1 hown hgrow hat hlt2; have HMG := Lib.hid (show Mod [] w w1 from grown_from (by repeat (first | with_reducible exact hM0 | with_reducible refine Mod.drew ?_ | with_reducible refine Mod.alloc ?_ _)) hgrow (fun b hb => (ownsRow_ge HOWN.out b hb).1)); have HO := Lib.hid hown; clear hown hgrow hat hlt2))
      have hfl : eflat (es.take j) ++ ecells e = eflat (es.take (j + 1)) := by
        rw [List.take_add_one, HE.out]
        simp [eflat]
      have hO := HO.out
      rw [hfl] at hO
      have HO2 := Lib.hid hO
      clear hO hfl HO HEV HAR
      go_wp2_with fail
      go_roundw
      case rel => exact ⟨j + 1, by go_num, by omega, HO2.out, HMG.out⟩
      case measure => simp [intOf]; omega
    · obtain rfl : j = es.length := by omega
      go_wp2_with fail
      go_ret
      exact ⟨u3, rfl, by have := HOWN.out; rwa [List.take_length] at this, HM.out⟩

end Go.Proofs.YtaaaiggbnkeblaaGreatDoor

namespace Go.Proofs.YtaaaiggbnkeblaaGreatDoor
set_option linter.unusedSimpArgs false
set_option linter.unusedVariables false
open Go.RowKit

set_option maxRecDepth 100000 in
set_option maxHeartbeats 4000000 in
theorem cpoll_nil (c N D K : Nat) (l tr : Value) (sit : Option Addr) (was : Int) (w : World) (h : CloudAt w c N l tr) (hn : NodeAt w N D K sit (.slice none 0 0) was) :
    Calls Tryz.prog 69 #[.pointer (some ⟨c, 0, none⟩)] w fun e w' => e = .returned (.tuple #[]) ∧ NodeAt w' N D K sit (.slice none 0 0) was ∧ Mod [N] w w' := by
  have HN := Lib.hid hn
  have c0 := h.c0
  have n1 := h.n
  clear h hn
  go_enter Tryz.func69, Tryz.ntmps69
  go_wp2_with fail
  go_region
  go_wp2_with fail
  refine wp_loop_rounds 2 ?_
  rw [rounds_succ]
  go_wp2_with fail
  refine (npoll_any N D K sit (.slice none 0 0) was _ (HN.out.mod (Mod.refl [] _).drew (by simp))).mono ?_
  rintro e w1 ⟨rfl, hn1, hm1⟩
  have H1 := Lib.hid (And.intro hn1 ((Mod.refl [N] w).drew.trans hm1))
  clear hn1 hm1 c0 n1
  go_wp2_with fail
  refine wp_loop_rounds 1 ?_
  rw [rounds_succ]
  go_wp2_with fail
  rw [rounds_succ]
  go_wp2
  refine bodyPost_end (results_none rfl _ _ _) rfl ?_
  exact ⟨rfl, H1.out.1, H1.out.2⟩

/-- An event's cells. -/
def evcells (e : Ent) : List Value := [.int .i64 e.kind, .int .u64 e.id, .int .u64 e.ms, .int .u64 e.n, .int .i64 e.s, .int .u64 e.num, .string e.t]
theorem infoCEntry : ∃ i, Tryz.prog.info? 164 = some i ∧ i.zero = some (.agg #[.int .i64 0, .bool false, .int .i64 0, .int .u64 0, .int .u64 0, .int .u64 0, .int .i64 0, .int .u64 0, .string ⟨#[]⟩]) ∧ i.size = 9 ∧ i.bytes ≤ 128 := by
  have h : (Tryz.prog.info? 164).map (fun i => (i.zero, i.size, decide (i.bytes ≤ 128))) = some (some (.agg #[.int .i64 0, .bool false, .int .i64 0, .int .u64 0, .int .u64 0, .int .u64 0, .int .i64 0, .int .u64 0, .string ⟨#[]⟩]), 9, true) := by kernel_rfl
  cases hi : Tryz.prog.info? 164 with
  | none => rw [hi] at h; cases h
  | some i =>
    rw [hi] at h
    simp at h
    exact ⟨i, rfl, h.1, h.2.1, h.2.2⟩

def PollPost (w : World) (c N D K : Nat) (l tr : Value) (sit : Option Addr) (was : Int) (B : Nat) (es : List Ent) (e0 : Ent) (e : Ending) (w' : World) : Prop :=
  e = .returned (.tuple #[]) ∧ ∃ tr', CloudAt w' c N l tr' ∧ NodeAt w' N D K sit (.slice none 0 0) was ∧ w'.ownsRow B 164 9 tr' (es.length + 1) (eflat (es ++ [e0])) ∧ Mod (c :: N :: tr.ownBlock.toList) w w'

set_option maxRecDepth 100000 in
set_option maxHeartbeats 8000000 in
theorem cpoll_one (c N D K g cap B : Nat) (l tr : Value) (sit : Option Addr) (was : Int) (es : List Ent) (kind id ms n s num : Int) (t : ByteArray) (w : World) (h : CloudAt w c N l tr) (hn : NodeAt w N D K sit (.slice (some ⟨g, 0, none⟩) 1 cap) was)
    (hg : ∀ j v, (evcells ⟨0, false, kind, id, ms, n, s, num, t⟩)[j]? = some v → w.cell? ⟨g, j, none⟩ = some v) (htr : w.ownsRow B 164 9 tr es.length (eflat es)) (hl : es.length ≤ 100) (hB : c < B ∧ N < B ∧ B ≤ w.heap.size ∧ c ≠ N ∧ g ≠ N) :
    Calls Tryz.prog 69 #[.pointer (some ⟨c, 0, none⟩)] w (PollPost w c N D K l tr sit was B es ⟨0, false, kind, id, ms, n, s, num, t⟩) := by
  have HN := Lib.hid hn
  have HC := Lib.hid h
  have HG := Lib.hid hg
  have HTR := Lib.hid htr
  have HB := Lib.hid hB
  obtain ⟨ie, hie, hiz, his, hib⟩ := infoCEntry
  have c0 := h.c0
  have n1 := h.n
  clear h hn hg htr hB
  go_enter Tryz.func69, Tryz.ntmps69
  go_wp2_with fail
  go_region
  go_wp2_with fail
  refine wp_loop_rounds 2 ?_
  rw [rounds_succ]
  go_wp2_with fail
  refine (npoll_any N D K sit _ was _ (HN.out.mod (Mod.refl [] _).drew (by simp))).mono ?_
  rintro e w1 ⟨rfl, hn1, hm1⟩
  have hm2 := (Mod.refl [N] w).drew.trans hm1
  have HN1 := Lib.hid hn1
  have HM1 := Lib.hid hm2
  have HC1 := Lib.hid (HC.out.mod hm2 (by have := HB.out; simp; omega))
  have HTR1 := Lib.hid (ownsRow_mod HTR.out hm2 (fun b hb => by have := (ownsRow_ge HTR.out b hb).1; have := HB.out; simp; omega))
  have G : ∀ j v, (evcells ⟨0, false, kind, id, ms, n, s, num, t⟩)[j]? = some v → w1.cell? ⟨g, j, none⟩ = some v := fun j v hj => hm2.at (HG.out j v hj) (by have := HB.out; simpa using this.2.2.2.2)
  have g0 := G 0 _ rfl
  have g1 := G 1 _ rfl
  have g2 := G 2 _ rfl
  have g3 := G 3 _ rfl
  have g4 := G 4 _ rfl
  have g5 := G 5 _ rfl
  have g6 := G 6 _ rfl
  clear G hn1 hm1 hm2 c0 n1 HG
  go_wp2_with fail
  refine wp_loop_rounds 2 ?_
  rw [rounds_succ]
  go_wp2_with fail
  have hrow := heap_new w1 (.cells #[.int .i64 kind, .int .u64 id, .int .u64 ms, .int .u64 n, .int .i64 s, .int .u64 num, .string t] 162)
  have hmw := (Mod.refl [] w1).alloc (.cells #[.int .i64 kind, .int .u64 id, .int .u64 ms, .int .u64 n, .int .i64 s, .int .u64 num, .string t] 162)
  have h1b : ∀ b, tr.ownBlock = some b → b < w1.heap.size := fun b hb => (ownsRow_ge HTR1.out b hb).2
  have HCW := Lib.hid (HC1.out.mod hmw (by simp))
  have HNW := Lib.hid (HN1.out.mod hmw (by simp))
  have HTW := Lib.hid (ownsRow_mod HTR1.out hmw (by simp))
  have HMW := Lib.hid (HM1.out.trans (hmw.mono (by simp)))
  generalize w1.alloc (.cells #[.int .i64 kind, .int .u64 id, .int .u64 ms, .int .u64 n, .int .i64 s, .int .u64 num, .string t] 162) = W at hrow HCW HNW HTW HMW ⊢
  clear hmw
  generalize w1.heap.size = b5 at hrow h1b ⊢
  have hob : b5 ∉ tr.ownBlock.toList := by
    intro hb
    rw [Option.mem_toList] at hb
    exact absurd (h1b b5 hb) (by omega)
  have hoc : c ∉ tr.ownBlock.toList := by
    intro hb
    rw [Option.mem_toList] at hb
    have := (ownsRow_ge HTW.out c hb).1
    have := HB.out
    omega
  have x0 := cell_in hrow (j := 0) rfl
  have x1 := cell_in hrow (j := 1) rfl
  have x2 := cell_in hrow (j := 2) rfl
  have x3 := cell_in hrow (j := 3) rfl
  have x4 := cell_in hrow (j := 4) rfl
  have x5 := cell_in hrow (j := 5) rfl
  have x6 := cell_in hrow (j := 6) rfl
  have xt := HCW.out.trace
  have hcl := HCW.out.lt
  have hxf := HCW.out.free 68
  have hk : ∀ w', Mod tr.ownBlock.toList W w' → w'.cell? ⟨c, 68, none⟩ = some tr ∧ w'.cell? ⟨b5, 0, none⟩ = some (.int .i64 kind) ∧ w'.cell? ⟨b5, 1, none⟩ = some (.int .u64 id) ∧ w'.cell? ⟨b5, 2, none⟩ = some (.int .u64 ms) ∧ w'.cell? ⟨b5, 3, none⟩ = some (.int .u64 n) ∧ w'.cell? ⟨b5, 4, none⟩ = some (.int .i64 s) ∧ w'.cell? ⟨b5, 5, none⟩ = some (.int .u64 num) ∧ w'.cell? ⟨b5, 6, none⟩ = some (.string t) := fun w' hm =>
    ⟨hm.at xt hoc, hm.at x0 hob, hm.at x1 hob, hm.at x2 hob, hm.at x3 hob, hm.at x4 hob, hm.at x5 hob, hm.at x6 hob⟩
  have KEEP := Lib.hid hk
  have HOC := Lib.hid hoc
  have HON := Lib.hid (show N ∉ tr.ownBlock.toList from by
    intro hb
    rw [Option.mem_toList] at hb
    have := (ownsRow_ge HTW.out N hb).1
    have := HB.out
    omega)
  have HXF := Lib.hid hxf
  have HCL := Lib.hid hcl
  clear hk hoc hob x0 x1 x2 x3 x4 x5 x6 xt hrow h1b hcl hxf HC1 HN1 HTR1 HM1 g0 g1 g2 g3 g4 g5 g6
  have HEV := Lib.hid (World.news_of_block (heap_new_drew W (.cells #[.int .i64 0, .bool false, .int .i64 kind, .int .u64 id, .int .u64 ms, .int .u64 n, .int .i64 s, .int .u64 num, .string t] 164)))
  have hbase : B ≤ ((W.alloc (.cells #[.int .i64 0, .bool false, .int .i64 kind, .int .u64 id, .int .u64 ms, .int .u64 n, .int .i64 s, .int .u64 num, .string t] 164)).drew).heap.size := by
    have := HMW.out.size
    have := HB.out
    simp
    omega
  have hown2 := ownsRow_mod HTW.out ((Mod.refl [] W).alloc (.cells #[.int .i64 0, .bool false, .int .i64 kind, .int .u64 id, .int .u64 ms, .int .u64 n, .int .i64 s, .int .u64 num, .string t] 164)).drew (by simp)
  have hby : (es.length + 1) * ie.bytes ≤ 140737488355328 := by
    have := Nat.mul_le_mul (show es.length + 1 ≤ 101 by omega) hib
    omega
  have hmx : es.length + 1 ≤ maxLen := by
    unfold maxLen
    omega
  have HAR := Lib.hid (And.intro hbase (And.intro hown2 (And.intro hby hmx)))
  clear hbase hown2 hby hmx
  obtain ⟨xt, x0, x1, x2, x3, x4, x5, x6⟩ := KEEP.out W (Mod.refl _ _)
  have hcl := HCL.out
  have hxf := HXF.out
  have hb5 : b5 < W.heap.size := cell_lt' x0
  go_region_law (refine step_append_lies _ rfl (.tmp 31) (.tmp 35) 101 rfl B 164 ie _ 9 ie.bytes Tryz.underlying101 hie hiz his rfl rfl (by decide) tr es.length (eflat es) (by simp [Act.eval, Act.put]) HAR.out.2.1 ⟨W.heap.size, 0, none⟩ 1 1 (ecells ⟨0, false, kind, id, ms, n, s, num, t⟩) (by simp [Act.eval, Act.put]) rfl HEV.out (ecells_one _) (by decide) HAR.out.2.2.2 HAR.out.2.2.1 HAR.out.1 _ rfl ?_; intro g' cap' w2 hown hgrow hat hlt2; have HMG := Lib.hid (show Mod tr.ownBlock.toList W w2 from Mod.grownRow (by repeat (first | with_reducible exact Mod.refl _ _ | with_reducible refine Mod.drew ?_ | with_reducible refine Mod.alloc ?_ _)) hgrow (fun b hb => .inl (by rw [hb]; simp))); have HO := Lib.hid hown; have k68 := (KEEP.out _ HMG.out).1; have kf := (HMG.out.frozen (p := ⟨c, 68, none⟩) HCL.out HOC.out).trans HXF.out; clear hown hgrow hat hlt2)
  all_goals
    clear xt x0 x1 x2 x3 x4 x5 x6 hcl hxf hb5
    go_wp2_with fail
    rw [rounds_succ]
    go_wp2_with fail
    rw [rounds_succ]
    go_wp2
    refine bodyPost_end (results_none rfl _ _ _) rfl ?_
    have hB := HB.out
    have hmf : Mod (c :: N :: tr.ownBlock.toList) W (w2.setCell ⟨c, 68, none⟩ (.slice (some ⟨g', 0, none⟩) (es.length + 1) cap')) := (HMG.out.mono (fun k _ hk => by simp only [List.mem_cons]; exact .inr (.inr hk))).setCell (.inl (by simp)) _
    have hsc : Mod [c] w2 (w2.setCell ⟨c, 68, none⟩ (.slice (some ⟨g', 0, none⟩) (es.length + 1) cap')) := (Mod.refl _ _).setCell (.inl (by simp)) _
    refine ⟨rfl, _, (HCW.out.mod HMG.out HOC.out).setTrace _, (HNW.out.mod HMG.out HON.out).mod hsc (by simp; omega), ?_, (HMW.out.mono (fun k _ hk => by simp at hk; simp [hk])).trans hmf⟩
    rw [eflat_app]
    exact ownsRow_mod HO.out hsc (fun b hb => by have := (ownsRow_ge HO.out b hb).1; simp; omega)

end Go.Proofs.YtaaaiggbnkeblaaGreatDoor

namespace Go.Proofs.YtaaaiggbnkeblaaGreatDoor
set_option linter.unusedSimpArgs false
set_option linter.unusedVariables false
open Go.RowKit

def isText (node : Int) (e : Ent) : Bool := (!e.sent && (e.kind == 2)) && (e.node == node)
def textsOf (node : Int) (es : List Ent) : List ByteArray := (es.filter (isText node)).map (·.t)

theorem infoStr : ∃ i, Tryz.prog.info? 9 = some i ∧ i.zero = some (.string ⟨#[]⟩) ∧ i.size = 1 ∧ i.bytes ≤ 16 := by
  have h : (Tryz.prog.info? 9).map (fun i => (i.zero, i.size, decide (i.bytes ≤ 16))) = some (some (.string ⟨#[]⟩), 1, true) := by kernel_rfl
  cases hi : Tryz.prog.info? 9 with
  | none => rw [hi] at h; cases h
  | some i =>
    rw [hi] at h
    simp at h
    exact ⟨i, rfl, h.1, h.2.1, h.2.2⟩

def TxRel (w : World) (node : Int) (es : List Ent) (u v : Value) (wr : World) : Prop :=
  ∃ j : Nat, v = .int .i64 j ∧ j ≤ es.length ∧ wr.ownsRow w.heap.size 9 1 u (textsOf node (es.take j)).length ((textsOf node (es.take j)).map Value.string) ∧ Mod [] w wr
def TxPost (w : World) (node : Int) (es : List Ent) (e : Ending) (w' : World) : Prop :=
  ∃ u, e = .returned u ∧ w'.ownsRow w.heap.size 9 1 u (textsOf node es).length ((textsOf node es).map Value.string) ∧ Mod [] w w'

set_option maxRecDepth 100000 in
set_option maxHeartbeats 8000000 in
theorem texts_any (g c : Nat) (node : Int) (es : List Ent) (w : World) (hr : RdEs w g es) (hl : es.length ≤ 1000) :
    Calls Tryz.prog 28 #[.slice (some ⟨g, 0, none⟩) es.length c, .int .i64 node] w (TxPost w node es) := by
  have HR := Lib.hid hr
  clear hr
  obtain ⟨ie, hie, hiz, his, hib⟩ := infoStr
  go_enter Tryz.func28, Tryz.ntmps28
  go_wp2_with fail
  go_loopw [5, 6] (fun u v wr => TxRel w node es u v wr) (fun _ v _ => es.length - (intOf v).toNat)
  case atStart => exact ⟨0, rfl, Nat.zero_le _, ⟨rfl, .inr ⟨w.heap.size, 0, #[], rfl, Nat.le_refl _, heap_new _ _, Nat.le_refl _, by simp, rfl, rfl⟩⟩, (Mod.refl [] _).alloc _⟩
  case round =>
    obtain ⟨j, rfl, hj, hown, hM⟩ := hrel
    have HOWN := Lib.hid hown
    have HM := Lib.hid hM
    clear hown hM
    by_cases hlt : j < es.length
    · have hlt' : (j : Int) < es.length := by omega
      obtain ⟨e, he⟩ : ∃ e, es[j]? = some e := ⟨_, List.getElem?_eq_getElem hlt⟩
      have h := HR.out.mod HM.out (by simp) j e he
      have x0 := h 0 _ rfl
      have x1 := h 1 _ rfl
      have x2 := h 2 _ rfl
      have x3 := h 3 _ rfl
      have x4 := h 4 _ rfl
      have x5 := h 5 _ rfl
      have x6 := h 6 _ rfl
      have x7 := h 7 _ rfl
      have x8 := h 8 _ rfl
      rw [Nat.add_zero] at x0
      have HE := Lib.hid he
      clear h he
      go_wp2_with fail
      refine (rdelivered_is e.node e.sent e.kind e.id e.ms e.n e.s e.num e.t _).mono ?_
      rintro e1 w1 ⟨rfl, hM1⟩
      have y0 := hM1.at x0 (by simp)
      have y8 := hM1.at x8 (by simp)
      have HM1 := Lib.hid hM1
      clear x0 x1 x2 x3 x4 x5 x6 x7 x8 hM1
      have htk : es.take (j + 1) = es.take j ++ [e] := by
        rw [List.take_add_one, HE.out]
        rfl
      have HTK := Lib.hid htk
      clear htk
      by_cases hit : isText node e = true
      · have hd : (!e.sent && (e.kind == 2)) = true := by unfold isText at hit; simp only [Bool.and_eq_true] at hit ⊢; exact hit.1
        have hn : (e.node == node) = true := by unfold isText at hit; simp only [Bool.and_eq_true] at hit; exact hit.2
        rw [hd]
        have HIT := Lib.hid hit
        clear hit hd
        obtain ⟨k, hk⟩ : ∃ k, (textsOf node (es.take j)).length = k := ⟨_, rfl⟩
        have hkl : k ≤ 1000 := by
          have h1 : (textsOf node (es.take j)).length ≤ (es.take j).length := by unfold textsOf; rw [List.length_map]; exact List.length_filter_le _ _
          rw [List.length_take] at h1
          omega
        have hown := HOWN.out
        rw [hk] at hown
        have HEV := Lib.hid (World.news_of_block (heap_new w1 (.cells #[.string e.t] 9)))
        have hM0 := HM.out.trans HM1.out
        have hbase : w.heap.size ≤ (w1.alloc (.cells #[.string e.t] 9)).heap.size := by
          have := hM0.size
          simp
          omega
        have hown2 := ownsRow_mod hown (HM1.out.alloc (.cells #[.string e.t] 9)) (by simp)
        have hby : (k + 1) * ie.bytes ≤ 140737488355328 := by
          have := Nat.mul_le_mul (show k + 1 ≤ 1001 by omega) hib
          omega
        have hmx : k + 1 ≤ maxLen := by
          unfold maxLen
          omega
        have HAR := Lib.hid (And.intro hbase (And.intro hown2 (And.intro hby hmx)))
        have HK := Lib.hid hk
        clear hbase hown2 hby hmx hown hk hkl
        go_wp2_with (at_builtin; with_reducible refine wpList_append_lies _ rfl (.tmp 28) (.tmp 36) 104 rfl w.heap.size 9 ie _ 1 ie.bytes Tryz.underlying104 hie hiz his rfl rfl (by decide) u5 k ((textsOf node (es.take j)).map Value.string) rfl HAR.out.2.1 ⟨w1.heap.size, 0, none⟩ 1 1 [.string e.t] rfl rfl HEV.out (by simp [Value.oneCell']) (by decide) HAR.out.2.2.2 HAR.out.2.2.1 HAR.out.1 _ rfl ?_; intro g' cap w2 hown hgrow hat hlt2)
        have hM2 : Mod [] w w2 := grown_from (hM0.alloc _) hgrow (fun b hb => (ownsRow_ge HOWN.out b hb).1)
        have e1 : textsOf node (es.take (j + 1)) = textsOf node (es.take j) ++ [e.t] := by
          rw [HTK.out]
          simp [textsOf, List.filter_append, HIT.out]
        refine ⟨⟨j + 1, by go_num, by omega, ?_, hM2⟩, by simp [intOf]; omega⟩
        rw [e1, List.length_append, List.map_append, HK.out]
        exact hown
      · have hit2 : isText node e = false := by simpa using hit
        have HO2 := Lib.hid (show w1.ownsRow w.heap.size 9 1 u5 (textsOf node (es.take (j + 1))).length ((textsOf node (es.take (j + 1))).map Value.string) from by
          have e1 : textsOf node (es.take (j + 1)) = textsOf node (es.take j) := by
            rw [HTK.out]
            simp [textsOf, List.filter_append, hit2]
          rw [e1]
          exact ownsRow_mod HOWN.out HM1.out (by simp))
        cases hd : (!e.sent && (e.kind == 2))
        · clear hit
          go_wp2_with fail
          go_roundw
          case rel => exact ⟨j + 1, by go_num, by omega, HO2.out, HM.out.trans HM1.out⟩
          case measure => simp [intOf]; omega
        · have hn : (e.node == node) = false := by
            unfold isText at hit2
            rw [hd] at hit2
            simpa using hit2
          clear hit hit2
          go_wp2_with fail
          go_roundw
          case rel => exact ⟨j + 1, by go_num, by omega, HO2.out, HM.out.trans HM1.out⟩
          case measure => simp [intOf]; omega
    · obtain rfl : j = es.length := by omega
      go_wp2_with fail
      go_ret
      exact ⟨u5, rfl, by have := HOWN.out; rwa [List.take_length] at this, HM.out⟩

end Go.Proofs.YtaaaiggbnkeblaaGreatDoor
