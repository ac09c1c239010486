/-
  The walks of order's Desk: Waits.
-/
import Derived.Test.YtpbamamplmbgjaaGreatDoorMsgs
namespace Go.Proofs.YtpbamamplmbgjaaGreatDoor
set_option linter.unusedSimpArgs false
set_option linter.unusedVariables false
open Go.RowKit

def WaitsRel (w : World) (L : List M) (n : Nat) (v u : Value) (wr : World) : Prop :=
  ∃ k : Nat, u = .int .i64 k ∧ k ≤ n ∧ OwnMs wr w.heap.size v (L.take k) ∧ Mod [] w wr

def WaitsPost (w : World) (L : List M) (n : Nat) (e : Ending) (w' : World) : Prop :=
  ∃ v, e = .returned v ∧ OwnMs w' w.heap.size v (L.take n) ∧ Mod [] w w'

theorem range_new (w : World) (m : M) : ((w.alloc (.cells #[.int .i64 m.1, .int .u64 m.2.1, .string m.2.2] 189)).drew).rangeAt w.heap.size 0 (mcells m) := fun j v hv => by
  rw [Nat.zero_add]
  exact cell_in (heap_new w (.cells #[.int .i64 m.1, .int .u64 m.2.1, .string m.2.2] 189)) (by simpa [mcells] using hv)
theorem take_one {α : Type} {L : List α} {k : Nat} {m : α} (h : L[k]? = some m) : L.take k ++ [m] = L.take (k + 1) := by
  rw [List.take_add_one, h]
  rfl
theorem Mod.grown' {a w w' : World} {r : Option Nat} (h : Mod [] a w) (hg : w.grownBy w' r) (hs : ∀ b, r = some b → a.heap.size ≤ b) : Mod [] a w' :=
  ⟨hg.os.trans h.os, hg.tape.trans h.tape, hg.output.trans h.output, Nat.le_trans h.size hg.size, fun k hk hks => (hg.block k (Nat.lt_of_lt_of_le hk h.size) (fun e => by
    have := hs k e.symm
    omega)).trans (h.block k hk hks)⟩
theorem mval_eta (m : M) : (m.1, m.2.1, m.2.2) = m := rfl

set_option maxRecDepth 100000 in
set_option maxHeartbeats 4000000 in
theorem waits_pos (d : Nat) (me num head : Int) (r : Nat → M) (L : List M) (most : Int) (n many : Nat) (w : World) (hr : DeskRaw w d me num head many r) (hl : ∀ i m, L[i]? = some m → r ((head.toNat + i) % 8) = m) (hmany : L.length = many) (hn0 : 0 < n)
    (hX : ((many : Int) < most ∧ n = many) ∨ (most = n ∧ n ≤ many)) :
    Calls Tryz.prog 241 #[.pointer (some ⟨d, 0, none⟩), .int .i64 most] w (WaitsPost w L n) := by
  have hd := hr.lt
  have h27 := hr.c27
  have hm1 := hr.m1
  have h0 := hr.h0
  have h1 := hr.h1
  have hnm : n ≤ many := by omega
  have HR := Lib.hid hr
  have HL := Lib.hid hl
  have HM := Lib.hid hmany
  clear hr hl hmany
  rcases hX with ⟨ha, rfl⟩ | ⟨rfl, ha⟩
  all_goals
    go_enter Tryz.func241, Tryz.ntmps241
    go_wp2_with fail
  all_goals
    go_loopw [4, 13] (fun v u wr => WaitsRel w L n v u wr) (fun _ u _ => n - (intOf u).toNat)
    case atStart => exact ⟨0, rfl, Nat.zero_le _, OwnMs.nil _ _, Mod.refl _ _⟩
    case round =>
      obtain ⟨k, rfl, hk, hO, hM⟩ := hrel
      have HRr := Lib.hid (HR.out.mod hM (by simp))
      have HO := Lib.hid hO
      have HMO := Lib.hid hM
      clear hO hM
      by_cases hlt : (k : Int) < n
      · have hlt' : k < n := by omega
        obtain ⟨m, hm⟩ : ∃ m, L[k]? = some m := ⟨_, List.getElem?_eq_getElem (by have := HM.out; omega)⟩
        obtain ⟨j, hj⟩ : ∃ j, (head.toNat + k) % 8 = j := ⟨_, rfl⟩
        have hj8 : j < 8 := by omega
        have hrm : r j = m := by rw [← hj]; exact HL.out k m hm
        have s0 : wr.cell? ⟨d, 2 + j * 3, none⟩ = some (.int .i64 m.1) := HRr.out.ring j hj8 0 _ (by rw [hrm]; rfl)
        have s1 : wr.cell? ⟨d, 2 + j * 3 + 1, none⟩ = some (.int .u64 m.2.1) := HRr.out.ring j hj8 1 _ (by rw [hrm]; rfl)
        have s2 : wr.cell? ⟨d, 2 + j * 3 + 2, none⟩ = some (.string m.2.2) := HRr.out.ring j hj8 2 _ (by rw [hrm]; rfl)
        have HJ := Lib.hid hj
        have HMM := Lib.hid hm
        clear hj hrm hm
        go_wp2_with (first | (go_at_call 181; refine (dat_any d me num head _ r k _ HRr.out (by omega) (by omega) j HJ.out).mono ?_; rintro e w5 ⟨rfl, rfl⟩) | (at_builtin; with_reducible refine wpList_append_msg rfl _ _ rfl w.heap.size _ _ rfl (HO.out.mod ((Mod.refl [] _).alloc _).drew (by simp)) _ _ m rfl ?o1 ?o2 ?o3 ?o4))
        case o1 => exact range_new _ m
        case o2 => have := HM.out; simp; omega
        case o3 => have := HMO.out.size; simp; omega
        case o4 =>
          intro v' w' hO' hgr hat
          rw [take_one HMM.out] at hO'
          have HO2 := Lib.hid hO'
          have HM2 := Lib.hid (((HMO.out.alloc _).drew).grown' hgr (fun b hb => (HO.out.own_ge b hb).1))
          clear hO' hgr hat
          go_wp2_with fail
          go_roundw
          case rel => exact ⟨k + 1, by go_num, by omega, HO2.out, HM2.out⟩
          case measure => simp [intOf]; omega
      · go_wp2_with fail
        go_ret
        obtain rfl : k = n := by omega
        exact ⟨_, rfl, HO.out, HMO.out⟩

theorem waits_zero (d : Nat) (me num head : Int) (r : Nat → M) (L : List M) (most : Int) (many : Nat) (w : World) (hr : DeskRaw w d me num head many r) (hX : most ≤ 0 ∨ many = 0) :
    Calls Tryz.prog 241 #[.pointer (some ⟨d, 0, none⟩), .int .i64 most] w (WaitsPost w L 0) := by
  have h27 := hr.c27
  clear hr
  have fin : ∀ w, WaitsPost w L 0 (.returned (.slice none 0 0)) w := fun w => ⟨_, rfl, OwnMs.nil _ _, Mod.refl _ _⟩
  have FIN := Lib.hid fin
  clear fin
  go_enter Tryz.func241, Tryz.ntmps241
  go_wp2_with fail
  all_goals
    first
    | (exfalso; omega)
    | (refine wp_loop_rounds 1 ?_
       rw [rounds_succ]
       go_wp2
       go_ret
       exact FIN.out _)

theorem waits_any (d : Nat) (me num : Int) (L : List M) (most : Int) (n : Nat) (w : World) (h : DeskAt w d me num L) (hn : max 0 (min most (L.length : Int)) = n) :
    Calls Tryz.prog 241 #[.pointer (some ⟨d, 0, none⟩), .int .i64 most] w (WaitsPost w L n) := by
  obtain ⟨head, r, hr, hl⟩ := h
  by_cases h0 : n = 0
  · subst h0
    exact waits_zero d me num head r L most L.length w hr (by omega)
  · exact waits_pos d me num head r L most n L.length w hr hl rfl (by omega) (by omega)

end Go.Proofs.YtpbamamplmbgjaaGreatDoor
