/-
  The walk of conventicleref19.Texts.
-/
import Derived.Test.YtpbamamplmbgjaaGreatDoorTopEn
namespace Go.Proofs.YtpbamamplmbgjaaGreatDoor
set_option linter.unusedSimpArgs false
set_option linter.unusedVariables false
open Go.RowKit

def isText (node : Int) (e : Ent) : Bool := (!e.sent && (e.kind == 2)) && (e.node == node)
def textsOf (node : Int) (es : List Ent) : List ByteArray := (es.filter (isText node)).map (·.t)

theorem infoStr : ∃ i, Tryz.prog.info? 9 = some i ∧ i.zero = some (.string ⟨#[]⟩) ∧ i.size = 1 ∧ i.bytes ≤ 16 := by
  have h : (Tryz.prog.info? 9).map (fun i => (i.zero, i.size, decide (i.bytes ≤ 16))) = some (some (.string ⟨#[]⟩), 1, true) := by kernel_rfl
  cases hi : Tryz.prog.info? 9 with
  | none => rw [hi] at h; cases h
  | some i =>
    rw [hi] at h
    simp at h
    exact ⟨i, rfl, h.1, h.2.1, h.2.2⟩

def TxRel (w : World) (node : Int) (es : List Ent) (u v : Value) (wr : World) : Prop :=
  ∃ j : Nat, v = .int .i64 j ∧ j ≤ es.length ∧ wr.ownsRow w.heap.size 9 1 u (textsOf node (es.take j)).length ((textsOf node (es.take j)).map Value.string) ∧ Mod [] w wr
def TxPost (w : World) (node : Int) (es : List Ent) (e : Ending) (w' : World) : Prop :=
  ∃ u, e = .returned u ∧ w'.ownsRow w.heap.size 9 1 u (textsOf node es).length ((textsOf node es).map Value.string) ∧ Mod [] w w'

set_option maxRecDepth 100000 in
set_option maxHeartbeats 8000000 in
theorem texts_any (g c : Nat) (node : Int) (es : List Ent) (w : World) (hr : RdEs w g es) (hl : es.length ≤ 1000) :
    Calls Tryz.prog 40 #[.slice (some ⟨g, 0, none⟩) es.length c, .int .i64 node] w (TxPost w node es) := by
  have HR := Lib.hid hr
  clear hr
  obtain ⟨ie, hie, hiz, his, hib⟩ := infoStr
  go_enter Tryz.func40, Tryz.ntmps40
  go_wp2_with fail
  go_loopw [5, 6] (fun u v wr => TxRel w node es u v wr) (fun _ v _ => es.length - (intOf v).toNat)
  case atStart => exact ⟨0, rfl, Nat.zero_le _, ⟨rfl, .inr ⟨w.heap.size, 0, #[], rfl, Nat.le_refl _, heap_new _ _, Nat.le_refl _, by simp, rfl, rfl⟩⟩, (Mod.refl [] _).alloc _⟩
  case round =>
    obtain ⟨j, rfl, hj, hown, hM⟩ := hrel
    have HOWN := Lib.hid hown
    have HM := Lib.hid hM
    clear hown hM
    by_cases hlt : j < es.length
    · have hlt' : (j : Int) < es.length := by omega
      obtain ⟨e, he⟩ : ∃ e, es[j]? = some e := ⟨_, List.getElem?_eq_getElem hlt⟩
      have h := HR.out.mod HM.out (by simp) j e he
      have x0 := h 0 _ rfl
      have x1 := h 1 _ rfl
      have x2 := h 2 _ rfl
      have x3 := h 3 _ rfl
      have x4 := h 4 _ rfl
      have x5 := h 5 _ rfl
      have x6 := h 6 _ rfl
      have x7 := h 7 _ rfl
      have x8 := h 8 _ rfl
      rw [Nat.add_zero] at x0
      have HE := Lib.hid he
      clear h he
      go_wp2_with fail
      refine (rdelivered_is e.node e.sent e.kind e.id e.ms e.n e.s e.num e.t _).mono ?_
      rintro e1 w1 ⟨rfl, hM1⟩
      have y0 := hM1.at x0 (by simp)
      have y8 := hM1.at x8 (by simp)
      have HM1 := Lib.hid hM1
      clear x0 x1 x2 x3 x4 x5 x6 x7 x8 hM1
      have htk : es.take (j + 1) = es.take j ++ [e] := by
        rw [List.take_add_one, HE.out]
        rfl
      have HTK := Lib.hid htk
      clear htk
      by_cases hit : isText node e = true
      · have hd : (!e.sent && (e.kind == 2)) = true := by unfold isText at hit; simp only [Bool.and_eq_true] at hit ⊢; exact hit.1
        have hn : (e.node == node) = true := by unfold isText at hit; simp only [Bool.and_eq_true] at hit; exact hit.2
        rw [hd]
        have HIT := Lib.hid hit
        clear hit hd
        obtain ⟨k, hk⟩ : ∃ k, (textsOf node (es.take j)).length = k := ⟨_, rfl⟩
        have hkl : k ≤ 1000 := by
          have h1 : (textsOf node (es.take j)).length ≤ (es.take j).length := by unfold textsOf; rw [List.length_map]; exact List.length_filter_le _ _
          rw [List.length_take] at h1
          omega
        have hown := HOWN.out
        rw [hk] at hown
        have HEV := Lib.hid (World.news_of_block (heap_new w1 (.cells #[.string e.t] 9)))
        have hM0 := HM.out.trans HM1.out
        have hbase : w.heap.size ≤ (w1.alloc (.cells #[.string e.t] 9)).heap.size := by
          have := hM0.size
          simp
          omega
        have hown2 := ownsRow_mod hown (HM1.out.alloc (.cells #[.string e.t] 9)) (by simp)
        have hby : (k + 1) * ie.bytes ≤ 140737488355328 := by
          have := Nat.mul_le_mul (show k + 1 ≤ 1001 by omega) hib
          omega
        have hmx : k + 1 ≤ maxLen := by
          unfold maxLen
          omega
        have HAR := Lib.hid (And.intro hbase (And.intro hown2 (And.intro hby hmx)))
        have HK := Lib.hid hk
        clear hbase hown2 hby hmx hown hk hkl
        go_wp2_with (at_builtin; with_reducible refine wpList_append_lies _ rfl (.tmp 28) (.tmp 36) 115 rfl w.heap.size 9 ie _ 1 ie.bytes Tryz.underlying115 hie hiz his rfl rfl (by decide) u5 k ((textsOf node (es.take j)).map Value.string) rfl HAR.out.2.1 ⟨w1.heap.size, 0, none⟩ 1 1 [.string e.t] rfl rfl HEV.out (by simp [Value.oneCell']) (by decide) HAR.out.2.2.2 HAR.out.2.2.1 HAR.out.1 _ rfl ?_; intro g' cap w2 hown hgrow hat hlt2)
        have hM2 : Mod [] w w2 := grown_from (hM0.alloc _) hgrow (fun b hb => (ownsRow_ge HOWN.out b hb).1)
        have e1 : textsOf node (es.take (j + 1)) = textsOf node (es.take j) ++ [e.t] := by
          rw [HTK.out]
          simp [textsOf, List.filter_append, HIT.out]
        refine ⟨⟨j + 1, by go_num, by omega, ?_, hM2⟩, by simp [intOf]; omega⟩
        rw [e1, List.length_append, List.map_append, HK.out]
        exact hown
      · have hit2 : isText node e = false := by simpa using hit
        have HO2 := Lib.hid (show w1.ownsRow w.heap.size 9 1 u5 (textsOf node (es.take (j + 1))).length ((textsOf node (es.take (j + 1))).map Value.string) from by
          have e1 : textsOf node (es.take (j + 1)) = textsOf node (es.take j) := by
            rw [HTK.out]
            simp [textsOf, List.filter_append, hit2]
          rw [e1]
          exact ownsRow_mod HOWN.out HM1.out (by simp))
        cases hd : (!e.sent && (e.kind == 2))
        · clear hit
          go_wp2_with fail
          go_roundw
          case rel => exact ⟨j + 1, by go_num, by omega, HO2.out, HM.out.trans HM1.out⟩
          case measure => simp [intOf]; omega
        · have hn : (e.node == node) = false := by
            unfold isText at hit2
            rw [hd] at hit2
            simpa using hit2
          clear hit hit2
          go_wp2_with fail
          go_roundw
          case rel => exact ⟨j + 1, by go_num, by omega, HO2.out, HM.out.trans HM1.out⟩
          case measure => simp [intOf]; omega
    · obtain rfl : j = es.length := by omega
      go_wp2_with fail
      go_ret
      exact ⟨u5, rfl, by have := HOWN.out; rwa [List.take_length] at this, HM.out⟩

end Go.Proofs.YtpbamamplmbgjaaGreatDoor
