/-
  Rows of a trace's entries; the walk of conventicletop.theirs.
-/
import Derived.Test.YtpbamamplmbgjaaGreatDoorTopY
import Derived.Test.YtpbamamplmbgjaaGreatDoorTopI
import Derived.Deep.RegionHeldLaw
import Derived.Deep.AppendLies
namespace Go.Proofs.YtpbamamplmbgjaaGreatDoor
set_option linter.unusedSimpArgs false
set_option linter.unusedVariables false
open Go.RowKit

/-- An entry: node, sent, kind, the view's Id and members, N, the message's sender, number, text. -/
structure Ent where
  node : Int
  sent : Bool
  kind : Int
  id : Int
  ms : Int
  n : Int
  s : Int
  num : Int
  t : ByteArray
def ecells (e : Ent) : List Value := [.int .i64 e.node, .bool e.sent, .int .i64 e.kind, .int .u64 e.id, .int .u64 e.ms, .int .u64 e.n, .int .i64 e.s, .int .u64 e.num, .string e.t]
def eflat (es : List Ent) : List Value := es.flatMap ecells
theorem eflat_app (es : List Ent) (e : Ent) : eflat (es ++ [e]) = eflat es ++ ecells e := by simp [eflat]
theorem eflat_len (es : List Ent) : (eflat es).length = es.length * 9 := by
  induction es with
  | nil => rfl
  | cons e es ih =>
    have : eflat (e :: es) = ecells e ++ eflat es := by simp [eflat]
    rw [this, List.length_append, ih]
    simp [ecells]
    omega
/-- A slice's cells hold entries. -/
def RdEs (w : World) (g : Nat) (es : List Ent) : Prop := ∀ i e, es[i]? = some e → ∀ j v, (ecells e)[j]? = some v → w.cell? ⟨g, i * 9 + j, none⟩ = some v
theorem RdEs.mod {S : List Nat} {w w' : World} {g : Nat} {es : List Ent} (h : RdEs w g es) (hm : Mod S w w') (hs : g ∉ S) : RdEs w' g es := fun i e hi j v hj => hm.at (h i e hi j v hj) hs

theorem infoEntry : ∃ i, Tryz.prog.info? 202 = some i ∧ i.zero = some (.agg #[.int .i64 0, .bool false, .int .i64 0, .int .u64 0, .int .u64 0, .int .u64 0, .int .i64 0, .int .u64 0, .string ⟨#[]⟩]) ∧ i.size = 9 ∧ i.bytes ≤ 128 := by
  have h : (Tryz.prog.info? 202).map (fun i => (i.zero, i.size, decide (i.bytes ≤ 128))) = some (some (.agg #[.int .i64 0, .bool false, .int .i64 0, .int .u64 0, .int .u64 0, .int .u64 0, .int .i64 0, .int .u64 0, .string ⟨#[]⟩]), 9, true) := by kernel_rfl
  cases hi : Tryz.prog.info? 202 with
  | none => rw [hi] at h; cases h
  | some i =>
    rw [hi] at h
    simp at h
    exact ⟨i, rfl, h.1, h.2.1, h.2.2⟩

theorem ecells_one (e : Ent) : ∀ u ∈ ecells e, u.oneCell' = true := by
  intro u hu
  simp [ecells] at hu
  rcases hu with rfl | rfl | rfl | rfl | rfl | rfl | rfl | rfl | rfl <;> rfl

/-- How far theirs has come. -/
def ThRel (w : World) (es : List Ent) (u v : Value) (wr : World) : Prop :=
  ∃ j : Nat, v = .int .i64 j ∧ j ≤ es.length ∧ wr.ownsRow w.heap.size 202 9 u j (eflat (es.take j)) ∧ Mod [] w wr
def ThPost (w : World) (es : List Ent) (e : Ending) (w' : World) : Prop :=
  ∃ u, e = .returned u ∧ w'.ownsRow w.heap.size 202 9 u es.length (eflat es) ∧ Mod [] w w'

set_option maxRecDepth 100000 in
set_option maxHeartbeats 8000000 in
theorem theirs_any (g c : Nat) (es : List Ent) (w : World) (hr : RdEs w g es) (hl : es.length ≤ 1000) :
    Calls Tryz.prog 37 #[.slice (some ⟨g, 0, none⟩) es.length c] w (ThPost w es) := by
  have HR := Lib.hid hr
  clear hr
  obtain ⟨ie, hie, hiz, his, hib⟩ := infoEntry
  go_enter Tryz.func37, Tryz.ntmps37
  go_wp2_with fail
  go_loopw [3, 4] (fun u v wr => ThRel w es u v wr) (fun _ v _ => es.length - (intOf v).toNat)
  case atStart => exact ⟨0, rfl, Nat.zero_le _, ⟨rfl, .inr ⟨w.heap.size, 0, #[], rfl, Nat.le_refl _, heap_new _ _, Nat.le_refl _, by simp, rfl, rfl⟩⟩, (Mod.refl [] _).alloc _⟩
  case round =>
    obtain ⟨j, rfl, hj, hown, hM⟩ := hrel
    have HOWN := Lib.hid hown
    have HM := Lib.hid hM
    clear hown hM
    by_cases hlt : j < es.length
    · have hlt' : (j : Int) < es.length := by omega
      obtain ⟨e, he⟩ : ∃ e, es[j]? = some e := ⟨_, List.getElem?_eq_getElem hlt⟩
      have hk : ∀ w', Mod [] w w' → w'.cell? ⟨g, j * 9, none⟩ = some (.int .i64 e.node) ∧ w'.cell? ⟨g, j * 9 + 1, none⟩ = some (.bool e.sent) ∧ w'.cell? ⟨g, j * 9 + 2, none⟩ = some (.int .i64 e.kind) ∧ w'.cell? ⟨g, j * 9 + 2 + 1, none⟩ = some (.int .u64 e.id) ∧ w'.cell? ⟨g, j * 9 + 2 + 2, none⟩ = some (.int .u64 e.ms) ∧ w'.cell? ⟨g, j * 9 + 2 + 3, none⟩ = some (.int .u64 e.n) ∧ w'.cell? ⟨g, j * 9 + 2 + 4, none⟩ = some (.int .i64 e.s) ∧ w'.cell? ⟨g, j * 9 + 2 + 5, none⟩ = some (.int .u64 e.num) ∧ w'.cell? ⟨g, j * 9 + 2 + 6, none⟩ = some (.string e.t) := fun w' hm => by
        have h := HR.out.mod hm (by simp) j e he
        exact ⟨h 0 _ rfl, h 1 _ rfl, h 2 _ rfl, h 3 _ rfl, h 4 _ rfl, h 5 _ rfl, h 6 _ rfl, h 7 _ rfl, h 8 _ rfl⟩
      have KEEP := Lib.hid hk
      have HE := Lib.hid he
      clear hk he
      go_wp2_with fail
      have HEV := Lib.hid (World.news_of_block (heap_new_drew wr (.cells #[.int .i64 e.node, .bool e.sent, .int .i64 e.kind, .int .u64 e.id, .int .u64 e.ms, .int .u64 e.n, .int .i64 e.s, .int .u64 e.num, .string e.t] 202)))
      have hM0 := HM.out
      have hbase : w.heap.size ≤ ((wr.alloc (.cells #[.int .i64 e.node, .bool e.sent, .int .i64 e.kind, .int .u64 e.id, .int .u64 e.ms, .int .u64 e.n, .int .i64 e.s, .int .u64 e.num, .string e.t] 202)).drew).heap.size := by
        have := hM0.size
        simp
        omega
      have hown2 := ownsRow_mod HOWN.out ((Mod.refl [] wr).alloc (.cells #[.int .i64 e.node, .bool e.sent, .int .i64 e.kind, .int .u64 e.id, .int .u64 e.ms, .int .u64 e.n, .int .i64 e.s, .int .u64 e.num, .string e.t] 202)).drew (by simp)
      have hby : (j + 1) * ie.bytes ≤ 140737488355328 := by
        have := Nat.mul_le_mul (show j + 1 ≤ 1001 by omega) hib
        omega
      have hmx : j + 1 ≤ maxLen := by
        unfold maxLen
        omega
      have HAR := Lib.hid (And.intro hbase (And.intro hown2 (And.intro hby hmx)))
      clear hbase hown2 hby hmx
      go_region_held_law (fun w' => w'.cell? ⟨g, j * 9, none⟩ = some (.int .i64 e.node) ∧ w'.cell? ⟨g, j * 9 + 1, none⟩ = some (.bool e.sent) ∧ w'.cell? ⟨g, j * 9 + 2, none⟩ = some (.int .i64 e.kind) ∧ w'.cell? ⟨g, j * 9 + 2 + 1, none⟩ = some (.int .u64 e.id) ∧ w'.cell? ⟨g, j * 9 + 2 + 2, none⟩ = some (.int .u64 e.ms) ∧ w'.cell? ⟨g, j * 9 + 2 + 3, none⟩ = some (.int .u64 e.n) ∧ w'.cell? ⟨g, j * 9 + 2 + 4, none⟩ = some (.int .i64 e.s) ∧ w'.cell? ⟨g, j * 9 + 2 + 5, none⟩ = some (.int .u64 e.num) ∧ w'.cell? ⟨g, j * 9 + 2 + 6, none⟩ = some (.string e.t)) (exact KEEP.out _ (by repeat (first | with_reducible exact HMG.out | with_reducible exact hM0 | with_reducible refine Mod.drew ?_ | with_reducible refine Mod.alloc ?_ _))) ((refine step_append_lies _ rfl (.tmp 12) (.tmp 29) 110 rfl w.heap.size 202 ie _ 9 ie.bytes Tryz.underlying110 hie hiz his rfl rfl (by decide) u3 j (eflat (es.take j)) rfl HAR.out.2.1 ⟨wr.heap.size, 0, none⟩ 1 1 (ecells e) rfl rfl HEV.out (ecells_one e) (by decide) HAR.out.2.2.2 HAR.out.2.2.1 HAR.out.1 _ rfl ?_; intro g' cap w1 hown hgrow hat hlt2; have HMG := Lib.hid (show Mod [] w w1 from grown_from (by repeat (first | with_reducible exact hM0 | with_reducible refine Mod.drew ?_ | with_reducible refine Mod.alloc ?_ _)) hgrow (fun b hb => (ownsRow_ge HOWN.out b hb).1)); have HO := Lib.hid hown; clear hown hgrow hat hlt2))
      have hfl : eflat (es.take j) ++ ecells e = eflat (es.take (j + 1)) := by
        rw [List.take_add_one, HE.out]
        simp [eflat]
      have hO := HO.out
      rw [hfl] at hO
      have HO2 := Lib.hid hO
      clear hO hfl HO HEV HAR
      go_wp2_with fail
      go_roundw
      case rel => exact ⟨j + 1, by go_num, by omega, HO2.out, HMG.out⟩
      case measure => simp [intOf]; omega
    · obtain rfl : j = es.length := by omega
      go_wp2_with fail
      go_ret
      exact ⟨u3, rfl, by have := HOWN.out; rwa [List.take_length] at this, HM.out⟩

end Go.Proofs.YtpbamamplmbgjaaGreatDoor
