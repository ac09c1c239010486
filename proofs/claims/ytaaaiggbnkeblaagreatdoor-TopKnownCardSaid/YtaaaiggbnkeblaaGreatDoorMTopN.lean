/-
  The walks of a member's small methods: New, View, Waits, Poll, Send.
  The walks of a member's Live, Frozen, limit, others, notes, where its turn has just begun and it is alone.
  A cloud of one node: Node, and what its block holds.
  The walks of conventicleref19: Same at one text, delivered.
  The walk of a member's closing where it is alone.
-/
import Derived.Test.YtaaaiggbnkeblaaGreatDoorMTopQ
import Derived.Test.YtaaaiggbnkeblaaGreatDoorMTopF
import Derived.Test.YtaaaiggbnkeblaaGreatDoorMDeskC
namespace Go.Proofs.YtaaaiggbnkeblaaGreatDoor
set_option linter.unusedSimpArgs false
set_option linter.unusedVariables false
open Go.RowKit

/-- A node 0 at block N: its detector at D, its desk at K; its view, its events, its greatest Id. -/
structure NodeAt (w : World) (N D K : Nat) (sit : Option Addr) (ev : Value) (was : Int) : Prop where
  c0 : w.cell? ⟨N, 0, none⟩ = some (.pointer sit)
  c1 : w.cell? ⟨N, 1, none⟩ = some (.pointer none)
  c2 : w.cell? ⟨N, 2, none⟩ = some (.int .i64 0)
  c3 : w.cell? ⟨N, 3, none⟩ = some (.pointer (some ⟨D, 0, none⟩))
  c4 : w.cell? ⟨N, 4, none⟩ = some (.pointer (some ⟨K, 0, none⟩))
  c5 : w.cell? ⟨N, 5, none⟩ = some ev
  c6 : w.cell? ⟨N, 6, none⟩ = some (.int .u64 0)
  c8 : w.cell? ⟨N, 8, none⟩ = some (.bool false)
  c9 : w.cell? ⟨N, 9, none⟩ = some (.int .u64 was)
  c10 : w.cell? ⟨N, 10, none⟩ = some (.bool false)
  free : ∀ j, w.frozen? ⟨N, j, none⟩ = false

theorem NodeAt.lt {w : World} {N D K : Nat} {sit : Option Addr} {ev : Value} {was : Int} (h : NodeAt w N D K sit ev was) : N < w.heap.size := block_lt_of_cell h.c0
theorem NodeAt.mod {S : List Nat} {w w' : World} {N D K : Nat} {sit : Option Addr} {ev : Value} {was : Int} (h : NodeAt w N D K sit ev was) (hm : Mod S w w') (hn : N ∉ S) : NodeAt w' N D K sit ev was :=
  ⟨hm.at h.c0 hn, hm.at h.c1 hn, hm.at h.c2 hn, hm.at h.c3 hn, hm.at h.c4 hn, hm.at h.c5 hn, hm.at h.c6 hn, hm.at h.c8 hn, hm.at h.c9 hn, hm.at h.c10 hn, fun j => (hm.frozen (by exact h.lt) hn).trans (h.free j)⟩
theorem NodeAt.setEv {w : World} {N D K : Nat} {sit : Option Addr} {ev : Value} {was : Int} (h : NodeAt w N D K sit ev was) (v : Value) : NodeAt (w.setCell ⟨N, 5, none⟩ v) N D K sit v was := by
  refine ⟨?_, ?_, ?_, ?_, ?_, cell_set_same h.c5, ?_, ?_, ?_, ?_, fun j => (frozen_set _ _ _ _).trans (h.free j)⟩
  · rw [cell_set_off _ _ _ _ (by simp)]; exact h.c0
  · rw [cell_set_off _ _ _ _ (by simp)]; exact h.c1
  · rw [cell_set_off _ _ _ _ (by simp)]; exact h.c2
  · rw [cell_set_off _ _ _ _ (by simp)]; exact h.c3
  · rw [cell_set_off _ _ _ _ (by simp)]; exact h.c4
  · rw [cell_set_off _ _ _ _ (by simp)]; exact h.c6
  · rw [cell_set_off _ _ _ _ (by simp)]; exact h.c8
  · rw [cell_set_off _ _ _ _ (by simp)]; exact h.c9
  · rw [cell_set_off _ _ _ _ (by simp)]; exact h.c10

/-- A block's cells, none frozen. -/
def RowAt (w : World) (S : Nat) (cs : Array Value) : Prop := 0 < cs.size ∧ (∀ j v, cs[j]? = some v → w.cell? ⟨S, j, none⟩ = some v) ∧ ∀ j, w.frozen? ⟨S, j, none⟩ = false
theorem RowAt.of_row {w : World} {S : Nat} {cs : Array Value} {t : TypeId} (h : w.heap[S]? = some (.cells cs t (0, 0))) (h0 : 0 < cs.size) : RowAt w S cs := ⟨h0, fun _ _ hj => cell_in h hj, fun _ => free_in h⟩
theorem RowAt.lt {w : World} {S : Nat} {cs : Array Value} (h : RowAt w S cs) : S < w.heap.size := block_lt_of_cell (h.2.1 0 _ (Array.getElem?_eq_getElem h.1))
theorem RowAt.mod {X : List Nat} {w w' : World} {S : Nat} {cs : Array Value} (h : RowAt w S cs) (hm : Mod X w w') (hs : S ∉ X) : RowAt w' S cs :=
  ⟨h.1, fun j v hj => hm.at (h.2.1 j v hj) hs, fun j => (hm.frozen (by exact h.lt) hs).trans (h.2.2 j)⟩
theorem RowAt.set {w : World} {S k : Nat} {cs cs' : Array Value} {v : Value} (h : RowAt w S cs) (hc : cs.setIfInBounds k v = cs') (hk : k < cs.size) : RowAt (w.setCell ⟨S, k, none⟩ v) S cs' := by
  subst hc
  refine ⟨by rw [Array.size_setIfInBounds]; exact h.1, fun j u hj => ?_, fun j => (frozen_set _ _ _ _).trans (h.2.2 j)⟩
  by_cases e : j = k
  · subst e
    rw [Array.getElem?_setIfInBounds_self_of_lt hk] at hj
    cases hj
    exact cell_set_same (h.2.1 j _ (Array.getElem?_eq_getElem hk))
  · rw [Array.getElem?_setIfInBounds_ne (fun e2 => e e2.symm)] at hj
    rw [cell_set_off _ _ _ _ (by simp; omega)]
    exact h.2.1 j u hj

theorem NodeAt.seat {w : World} {N D K : Nat} {ev : Value} {was : Int} (h : NodeAt w N D K none ev was) (S : Nat) (v : Int) :
    NodeAt ((((w.setCell ⟨N, 1, none⟩ (.pointer none)).setCell ⟨N, 0, none⟩ (.pointer (some ⟨S, 0, none⟩))).setCell ⟨N, 9, none⟩ (.int .u64 v)).setCell ⟨N, 8, none⟩ (.bool false)).drew N D K (some ⟨S, 0, none⟩) ev v := by
  have off : ∀ j : Nat, j ≠ 0 → j ≠ 1 → j ≠ 8 → j ≠ 9 → ((((w.setCell ⟨N, 1, none⟩ (.pointer none)).setCell ⟨N, 0, none⟩ (.pointer (some ⟨S, 0, none⟩))).setCell ⟨N, 9, none⟩ (.int .u64 v)).setCell ⟨N, 8, none⟩ (.bool false)).cell? ⟨N, j, none⟩ = w.cell? ⟨N, j, none⟩ := fun j h0 h1 h8 h9 => by
    rw [cell_set_off _ _ _ _ (by simp; omega), cell_set_off _ _ _ _ (by simp; omega), cell_set_off _ _ _ _ (by simp; omega), cell_set_off _ _ _ _ (by simp; omega)]
  refine NodeAt.mod (S := []) (w := (((w.setCell ⟨N, 1, none⟩ (.pointer none)).setCell ⟨N, 0, none⟩ (.pointer (some ⟨S, 0, none⟩))).setCell ⟨N, 9, none⟩ (.int .u64 v)).setCell ⟨N, 8, none⟩ (.bool false)) ?_ (Mod.refl [] _).drew (by simp)
  refine ⟨?_, ?_, ?_, ?_, ?_, ?_, ?_, ?_, ?_, ?_, fun j => ?_⟩
  · rw [cell_set_off _ _ _ _ (by simp), cell_set_off _ _ _ _ (by simp)]
    refine cell_set_same (u := .pointer none) ?_
    rw [cell_set_off _ _ _ _ (by simp)]; exact h.c0
  · rw [cell_set_off _ _ _ _ (by simp), cell_set_off _ _ _ _ (by simp), cell_set_off _ _ _ _ (by simp)]
    exact cell_set_same h.c1
  · rw [off 2 (by decide) (by decide) (by decide) (by decide)]; exact h.c2
  · rw [off 3 (by decide) (by decide) (by decide) (by decide)]; exact h.c3
  · rw [off 4 (by decide) (by decide) (by decide) (by decide)]; exact h.c4
  · rw [off 5 (by decide) (by decide) (by decide) (by decide)]; exact h.c5
  · rw [off 6 (by decide) (by decide) (by decide) (by decide)]; exact h.c6
  · refine cell_set_same (u := .bool false) ?_
    rw [cell_set_off _ _ _ _ (by simp), cell_set_off _ _ _ _ (by simp), cell_set_off _ _ _ _ (by simp)]; exact h.c8
  · rw [cell_set_off _ _ _ _ (by simp)]
    refine cell_set_same (u := .int .u64 was) ?_
    rw [cell_set_off _ _ _ _ (by simp), cell_set_off _ _ _ _ (by simp)]; exact h.c9
  · rw [off 10 (by decide) (by decide) (by decide) (by decide)]; exact h.c10
  · rw [frozen_set, frozen_set, frozen_set, frozen_set]; exact h.free j
theorem NodeAt.setSame {w : World} {N D K j : Nat} {sit : Option Addr} {ev : Value} {was : Int} {v : Value} (h : NodeAt w N D K sit ev was) (hv : w.cell? ⟨N, j, none⟩ = some v) : NodeAt (w.setCell ⟨N, j, none⟩ v) N D K sit ev was :=
  have e := set_same_cells hv
  ⟨(e _).trans h.c0, (e _).trans h.c1, (e _).trans h.c2, (e _).trans h.c3, (e _).trans h.c4, (e _).trans h.c5, (e _).trans h.c6, (e _).trans h.c8, (e _).trans h.c9, (e _).trans h.c10, fun j => (frozen_set _ _ _ _).trans (h.free j)⟩

def NewNode (w : World) (e : Ending) (w' : World) : Prop :=
  ∃ N D r K, e = .returned (.pointer (some ⟨N, 0, none⟩)) ∧ NodeAt w' N D K none (.slice none 0 0) 0 ∧ DetAt w' D r 0 ∧ DeskAt w' K 0 0 [] ∧ (w.heap.size ≤ D ∧ w.heap.size ≤ r ∧ D ≠ r ∧ D < K ∧ r < K ∧ K < N) ∧ Mod [] w w'

set_option maxRecDepth 100000 in
set_option maxHeartbeats 4000000 in
theorem newnode0 (w : World) : Calls Tryz.prog 67 #[.int .i64 0] w (NewNode w) := by
  have hpn : ∀ (a : Addr) (w : World), (binOp .eql 51 (.pointer (some a)) (.pointer none)).run Tryz.prog w = .ok (.bool false) w := fun a w => by kernel_rfl
  go_enter Tryz.func67, Tryz.ntmps67
  go_wp2_with fail
  refine (det_new _).mono ?_
  rintro e w1 ⟨D, r, rfl, hD, hD0, hr0, hDr, hM1⟩
  have HD := Lib.hid hD
  have HS := Lib.hid (And.intro hD0 (And.intro hr0 hDr))
  have HM1 := Lib.hid hM1
  clear hD hD0 hr0 hDr hM1
  go_wp2_with fail
  refine (newdesk_any 0 0 _ (by decide) (by decide) (by decide)).mono ?_
  rintro e w2 ⟨K, rfl, hK0, hK, hM2⟩
  have HK := Lib.hid hK
  have HK0 := Lib.hid hK0
  have HM2 := Lib.hid hM2
  clear hK hK0 hM2
  go_wp2
  go_ret
  have hh := heap_new w2 (.cells #[.pointer none, .pointer none, .int .i64 0, .pointer (some ⟨D, 0, none⟩), .pointer (some ⟨K, 0, none⟩), .slice none 0 0, .int .u64 0, .int .i64 0, .bool false, .int .u64 0, .bool false] 225)
  have hD2 := HD.out.lt
  have hr2 := HD.out.roll0.lt
  have hk0 := HK0.out
  have hKl : K < w2.heap.size := by
    obtain ⟨_, _, hraw, _⟩ := HK.out
    exact hraw.lt
  obtain ⟨s1, s2, s3⟩ := HS.out
  refine ⟨w2.heap.size, D, r, K, rfl, ⟨cell_in hh rfl, cell_in hh rfl, cell_in hh rfl, cell_in hh rfl, cell_in hh rfl, cell_in hh rfl, cell_in hh rfl, cell_in hh rfl, cell_in hh rfl, cell_in hh rfl, fun j => free_in hh⟩, (HD.out.mod HM2.out (by simp) (by simp)).mod ((Mod.refl [] _).alloc _) (by simp) (by simp), HK.out.mod ((Mod.refl [] _).alloc _) (by simp), ⟨s1, s2, s3, by omega, by omega, by omega⟩, (HM1.out.trans HM2.out).alloc _⟩

theorem Tryz.size_view : (Tryz.prog.info? 25).map (·.size) = some 2 := by kernel_rfl

set_option maxRecDepth 100000 in
set_option maxHeartbeats 4000000 in
theorem nview_in (N D K S : Nat) (ev : Value) (was id ms : Int) (w : World) (h : NodeAt w N D K (some ⟨S, 0, none⟩) ev was) (h0 : w.cell? ⟨S, 0, none⟩ = some (.int .u64 id)) (h1 : w.cell? ⟨S, 1, none⟩ = some (.int .u64 ms)) :
    Calls Tryz.prog 73 #[.pointer (some ⟨N, 0, none⟩)] w fun e w' => e = .returned (.tuple #[.agg #[.int .u64 id, .int .u64 ms], .bool true]) ∧ Mod [] w w' := by
  have hpn : ∀ (a : Addr) (w : World), (binOp .eql 222 (.pointer (some a)) (.pointer none)).run Tryz.prog w = .ok (.bool false) w := fun a w => by kernel_rfl
  have hl := h.lt
  have hne : ¬ N = w.heap.size := by omega
  have hsl : S < w.heap.size := block_lt_of_cell h0
  have hnes : ¬ S = w.heap.size := by omega
  have c0 := h.c0
  clear h
  go_enter Tryz.func73, Tryz.ntmps73
  go_wp2
  refine bodyPost_ret (results_row_tmp rfl _ _ w.heap.size 25 _ (0, 0) _ rfl (heap_new _ _) Tryz.underlying25 rfl Tryz.size_view) rfl ?_
  exact ⟨rfl, (Mod.refl _ _).alloc _⟩

set_option maxHeartbeats 4000000 in
theorem nwaits_any (N D K : Nat) (sit : Option Addr) (ev : Value) (was me num : Int) (L : List M) (w : World) (h : NodeAt w N D K sit ev was) (hk : DeskAt w K me num L) (hL : L.length ≤ 8) :
    Calls Tryz.prog 156 #[.pointer (some ⟨N, 0, none⟩)] w fun e w' => e = .returned (.int .i64 L.length) ∧ Mod [] w w' := by
  have c4 := h.c4
  have HK := Lib.hid hk
  have HL := Lib.hid hL
  clear h hk hL
  go_enter Tryz.func156, Tryz.ntmps156
  go_wp2_with fail
  refine (waits_any K me num L 8 L.length _ HK.out (by have := HL.out; omega)).mono ?_
  rintro e w1 ⟨v, rfl, hO, hM⟩
  rw [List.take_length] at hO
  obtain ⟨a, c, rfl, _⟩ := hO.shape
  have HM := Lib.hid hM
  clear hO hM
  go_wp2
  go_ret
  exact ⟨rfl, HM.out⟩

set_option maxHeartbeats 4000000 in
theorem npoll_any (N D K : Nat) (sit : Option Addr) (ev : Value) (was : Int) (w : World) (h : NodeAt w N D K sit ev was) :
    Calls Tryz.prog 121 #[.pointer (some ⟨N, 0, none⟩)] w fun e w' => e = .returned ev ∧ NodeAt w' N D K sit (.slice none 0 0) was ∧ Mod [N] w w' := by
  have H := Lib.hid h
  have c5 := h.c5
  have f5 := h.free 5
  clear h
  go_enter Tryz.func121, Tryz.ntmps121
  go_wp2
  go_ret
  exact ⟨rfl, H.out.setEv _, (Mod.refl _ _).setCell (.inl (by simp)) _⟩

def NSendPost (w : World) (K : Nat) (me num : Int) (L : List M) (t : ByteArray) (e : Ending) (w' : World) : Prop :=
  e = .returned (.tuple #[mval (me, num + 1, t), .int .i64 0]) ∧ Mod [K] w w' ∧ DeskAt w' K me (num + 1) (L ++ [(me, num + 1, t)])

set_option maxRecDepth 100000 in
set_option maxHeartbeats 4000000 in
theorem nsend_ok (N D K S : Nat) (ev : Value) (was me num : Int) (L : List M) (t : ByteArray) (w : World) (h : NodeAt w N D K (some ⟨S, 0, none⟩) ev was) (hk : DeskAt w K me num L) (hs : sendErr num L.length t = 0) :
    Calls Tryz.prog 72 #[.pointer (some ⟨N, 0, none⟩), .string t] w (NSendPost w K me num L t) := by
  have hpn : ∀ (a : Addr) (w : World), (binOp .eql 222 (.pointer (some a)) (.pointer none)).run Tryz.prog w = .ok (.bool false) w := fun a w => by kernel_rfl
  have hl := h.lt
  have hne : ¬ N = w.heap.size := by omega
  have c0 := h.c0
  have c4 := h.c4
  have ht : t.size ≤ 64 := by
    unfold sendErr at hs
    by_cases h64 : 64 < t.size
    · rw [if_pos h64] at hs; omega
    · omega
  have HK := Lib.hid hk
  have HS := Lib.hid hs
  have HT := Lib.hid ht
  clear h hk hs ht
  go_enter Tryz.func72, Tryz.ntmps72
  go_wp2_with fail
  refine (send_any K me num L t _ (HK.out.mod ((Mod.refl [] _).alloc _) (by simp)) (by have := HT.out; omega)).mono ?_
  rintro e w1 ⟨rfl, hM, hD⟩
  rw [HS.out, if_pos rfl, if_pos rfl] at hD
  rw [HS.out, if_pos rfl]
  have hrow : w1.heap[w.heap.size]? = some (.cells #[.int .i64 0, .int .u64 0, .string ⟨#[]⟩] 156 (0, 0)) := by
    have hKl : K < w.heap.size := by
      obtain ⟨_, _, hraw, _⟩ := HK.out
      exact hraw.lt
    exact (hM.block w.heap.size (by simp) (by simp; omega)).trans (heap_new w _)
  have HM := Lib.hid hM
  have HD2 := Lib.hid hD
  have HR := Lib.hid hrow
  have r0 : w1.cell? ⟨w.heap.size, 0, none⟩ = some (.int .i64 0) := cell_in hrow rfl
  have r1 : w1.cell? ⟨w.heap.size, 1, none⟩ = some (.int .u64 0) := cell_in hrow rfl
  have r2 : w1.cell? ⟨w.heap.size, 2, none⟩ = some (.string ⟨#[]⟩) := cell_in hrow rfl
  have q0 : w1.frozen? ⟨w.heap.size, 0, none⟩ = false := free_in hrow
  have q1 : w1.frozen? ⟨w.heap.size, 1, none⟩ = false := free_in hrow
  have q2 : w1.frozen? ⟨w.heap.size, 2, none⟩ = false := free_in hrow
  clear hM hD hrow
  simp only [mval, mcells]
  go_wp2
  have hKl : K < w.heap.size := by
    obtain ⟨_, _, hraw, _⟩ := HK.out
    exact hraw.lt
  have z0 : (((w1.setCell ⟨w.heap.size, 0, none⟩ (.int .i64 me)).setCell ⟨w.heap.size, 1, none⟩ (.int .u64 (num + 1))).setCell ⟨w.heap.size, 2, none⟩ (.string t)).cell? ⟨w.heap.size, 0, none⟩ = some (.int .i64 me) := by
    rw [cell_set_off _ _ _ _ (by simp), cell_set_off _ _ _ _ (by simp)]
    exact cell_set_same r0
  have z1 : (((w1.setCell ⟨w.heap.size, 0, none⟩ (.int .i64 me)).setCell ⟨w.heap.size, 1, none⟩ (.int .u64 (num + 1))).setCell ⟨w.heap.size, 2, none⟩ (.string t)).cell? ⟨w.heap.size, 1, none⟩ = some (.int .u64 (num + 1)) := by
    rw [cell_set_off _ _ _ _ (by simp)]
    refine cell_set_same (u := .int .u64 0) ?_
    rw [cell_set_off _ _ _ _ (by simp)]
    exact r1
  have z2 : (((w1.setCell ⟨w.heap.size, 0, none⟩ (.int .i64 me)).setCell ⟨w.heap.size, 1, none⟩ (.int .u64 (num + 1))).setCell ⟨w.heap.size, 2, none⟩ (.string t)).cell? ⟨w.heap.size, 2, none⟩ = some (.string t) := by
    refine cell_set_same (u := .string ⟨#[]⟩) ?_
    rw [cell_set_off _ _ _ _ (by simp), cell_set_off _ _ _ _ (by simp)]
    exact r2
  refine bodyPost_ret (v := .tuple #[mval (me, num + 1, t), .int .i64 0]) (by simp [results, Tryz.results72, go_sem, mval, mcells, z0, z1, z2]) rfl ?_
  refine ⟨rfl, ((((Mod.refl [K] w).alloc _).trans HM.out).setCell (.inr (by simp)) _ |>.setCell (.inr (by simp)) _ |>.setCell (.inr (by simp)) _), HD2.out.mod (S := [w.heap.size]) ((((Mod.refl _ _).setCell (.inl (by simp)) _).setCell (.inl (by simp)) _).setCell (.inl (by simp)) _) (by simp; omega)⟩

end Go.Proofs.YtaaaiggbnkeblaaGreatDoor

namespace Go.Proofs.YtaaaiggbnkeblaaGreatDoor
set_option linter.unusedSimpArgs false
set_option linter.unusedVariables false
open Go.RowKit

set_option maxHeartbeats 2000000 in
theorem nlive0 (N D K r : Nat) (sit : Option Addr) (ev : Value) (was now : Int) (w : World) (h : NodeAt w N D K sit ev was) (hd : DetAt w D r now) (ht : Tab w) :
    Calls Tryz.prog 221 #[.pointer (some ⟨N, 0, none⟩)] w fun e w' => e = .returned (.int .u64 1) ∧ Mod [] w w' := by
  have HL := Lib.hid (live_one r w hd.roll0 ht)
  have c3 := h.c3
  have c0 := hd.roll
  clear h hd ht
  go_enter Tryz.func221, Tryz.ntmps221
  go_wp2_with fail
  refine HL.out.mono ?_
  rintro e w1 ⟨rfl, hM⟩
  have HM := Lib.hid hM
  clear hM
  go_wp2
  go_ret
  exact ⟨rfl, HM.out⟩

set_option maxHeartbeats 2000000 in
theorem nfrozen0 (N D K S T : Nat) (ev : Value) (was n id ms : Int) (w : World) (h : NodeAt w N D K (some ⟨S, 0, none⟩) ev was) (hs : w.cell? ⟨S, 3, none⟩ = some (.pointer (some ⟨T, 0, none⟩))) (ht : Turn0 w T n id ms) :
    Calls Tryz.prog 215 #[.pointer (some ⟨N, 0, none⟩)] w fun e w' => e = .returned (.bool false) ∧ Mod [] w w' := by
  have hpn : ∀ (a : Addr) (w : World), (binOp .eql 222 (.pointer (some a)) (.pointer none)).run Tryz.prog w = .ok (.bool false) w := fun a w => by kernel_rfl
  have HL := Lib.hid (turn_frozen T n id ms w ht)
  have c0 := h.c0
  clear h ht
  go_enter Tryz.func215, Tryz.ntmps215
  go_wp2_with fail
  refine HL.out.mono ?_
  rintro e w1 ⟨rfl, hM⟩
  have HM := Lib.hid hM
  clear hM
  go_wp2
  go_ret
  exact ⟨rfl, HM.out⟩

set_option maxHeartbeats 2000000 in
theorem nlimit0 (N D K S T H : Nat) (ev : Value) (was n id ms low : Int) (r : Nat → P) (x : Int) (w : World) (h : NodeAt w N D K (some ⟨S, 0, none⟩) ev was) (hs : w.cell? ⟨S, 3, none⟩ = some (.pointer (some ⟨T, 0, none⟩))) (hs2 : w.cell? ⟨S, 2, none⟩ = some (.pointer (some ⟨H, 0, none⟩))) (ht : Turn0 w T n id ms) (hh : ShelfRaw w H low r)
    (hN : low ≤ x) (hM : x < 18446744073709551615) (hall : ∀ m, low < m → m ≤ x → hasP low r m = true) (hend : hasP low r (x + 1) = false) :
    Calls Tryz.prog 275 #[.pointer (some ⟨N, 0, none⟩)] w fun e w' => e = .returned (.int .u64 x) ∧ Mod [] w w' := by
  have HT := Lib.hid ht
  have HN := Lib.hid h
  have HS := Lib.hid (And.intro hs hs2)
  have HR := Lib.hid (fun w' (hm : Mod [] w w') => sreach_any H low r x w' (hh.mod hm (by simp)) hN hM hall hend)
  have c0 := h.c0
  clear h ht hall hend hh
  go_enter Tryz.func275, Tryz.ntmps275
  go_wp2_with fail
  refine (turn_decided T n id ms _ HT.out).mono ?_
  rintro e w1 ⟨rfl, hM⟩
  have HM1 := Lib.hid (hM.alloc (.cells #[.int .u64 0, .int .u64 0] 45))
  have d0 := HM1.out.at c0 (by simp)
  have d3 := HM1.out.at hs (by simp)
  have d2 := HM1.out.at hs2 (by simp)
  clear hM
  go_wp2_with fail
  refine (turn_frozen T n id ms _ (HT.out.mod HM1.out (by simp))).mono ?_
  rintro e w2 ⟨rfl, hM2⟩
  have HM2 := Lib.hid (HM1.out.trans hM2)
  have e0 := HM2.out.at c0 (by simp)
  have e2 := HM2.out.at hs2 (by simp)
  clear hM2
  go_wp2_with fail
  refine (HR.out _ HM2.out).mono ?_
  rintro e w3 ⟨rfl, rfl⟩
  go_wp2
  go_ret
  exact ⟨rfl, HM2.out⟩

set_option maxHeartbeats 2000000 in
theorem nnotes_nil (N : Value) (w : World) :
    Calls Tryz.prog 161 #[N, .slice none 0 0] w fun e w' => e = .returned (.slice none 0 0) ∧ w' = w := by
  go_enter Tryz.func161, Tryz.ntmps161
  go_wp2_with fail
  refine wp_loop_rounds 1 ?_
  rw [rounds_succ]
  go_wp2
  go_ret
  exact ⟨rfl, rfl⟩

set_option maxHeartbeats 2000000 in
theorem nothers0 (N D K S : Nat) (ev : Value) (was : Int) (w : World) (h : NodeAt w N D K (some ⟨S, 0, none⟩) ev was) (hs : w.cell? ⟨S, 1, none⟩ = some (.int .u64 1)) (ht : Tab w) :
    Calls Tryz.prog 164 #[.pointer (some ⟨N, 0, none⟩)] w fun e w' => (∃ a c, e = .returned (.slice a 0 c)) ∧ Mod [] w w' := by
  have HT := Lib.hid ht
  have c0 := h.c0
  have c2 := h.c2
  clear h ht
  go_enter Tryz.func164, Tryz.ntmps164
  go_wp2_with fail
  go_region_held3 (fun w' => w'.cell? ⟨N, 0, none⟩ = some (.pointer (some ⟨S, 0, none⟩)) ∧ w'.cell? ⟨N, 2, none⟩ = some (.int .i64 0) ∧ w'.cell? ⟨S, 1, none⟩ = some (.int .u64 1)) (first | exact ⟨c0, c2, hs⟩ | exact ⟨HM6.out.at c0 (by simp), HM6.out.at c2 (by simp), HM6.out.at hs (by simp)⟩) ((first | (go_at_call 105; refine (less_is 1 0 0 (by decide) (by decide) _).mono ?_; rintro e w5 ⟨rfl, rfl⟩) | (go_at_call 63; refine (bnil_is _ (HT.out.mod (Mod.refl [] _).drew (by simp))).mono ?_; rintro e w6 ⟨⟨a6, c6, rfl⟩, hM6⟩; have HM6 := Lib.hid ((Mod.refl [] w).drew.trans hM6); clear hM6)))
  go_wp2
  go_ret
  exact ⟨⟨_, _, rfl⟩, HM6.out⟩

end Go.Proofs.YtaaaiggbnkeblaaGreatDoor

namespace Go.Proofs.YtaaaiggbnkeblaaGreatDoor
set_option linter.unusedSimpArgs false
set_option linter.unusedVariables false
open Go.RowKit

/-- A cloud of one at block c: its node, its lots' pointer, its trace. -/
structure CloudAt (w : World) (c N : Nat) (l tr : Value) : Prop where
  c0 : w.cell? ⟨c, 0, none⟩ = some (.pointer (some ⟨N, 0, none⟩))
  n : w.cell? ⟨c, 64, none⟩ = some (.int .i64 1)
  up : w.cell? ⟨c, 65, none⟩ = some (.int .u64 1)
  bag : w.cell? ⟨c, 66, none⟩ = some (.slice none 0 0)
  lots : w.cell? ⟨c, 67, none⟩ = some l
  trace : w.cell? ⟨c, 68, none⟩ = some tr
  free : ∀ j, w.frozen? ⟨c, j, none⟩ = false

theorem CloudAt.lt {w : World} {c N : Nat} {l tr : Value} (h : CloudAt w c N l tr) : c < w.heap.size := block_lt_of_cell h.c0
theorem CloudAt.mod {S : List Nat} {w w' : World} {c N : Nat} {l tr : Value} (h : CloudAt w c N l tr) (hm : Mod S w w') (hs : c ∉ S) : CloudAt w' c N l tr :=
  ⟨hm.at h.c0 hs, hm.at h.n hs, hm.at h.up hs, hm.at h.bag hs, hm.at h.lots hs, hm.at h.trace hs, fun j => (hm.frozen (by exact h.lt) hs).trans (h.free j)⟩
theorem CloudAt.setTrace {w : World} {c N : Nat} {l tr : Value} (h : CloudAt w c N l tr) (v : Value) : CloudAt (w.setCell ⟨c, 68, none⟩ v) c N l v := by
  refine ⟨?_, ?_, ?_, ?_, ?_, cell_set_same h.trace, fun j => (frozen_set _ _ _ _).trans (h.free j)⟩
  · rw [cell_set_off _ _ _ _ (by simp)]; exact h.c0
  · rw [cell_set_off _ _ _ _ (by simp)]; exact h.n
  · rw [cell_set_off _ _ _ _ (by simp)]; exact h.up
  · rw [cell_set_off _ _ _ _ (by simp)]; exact h.bag
  · rw [cell_set_off _ _ _ _ (by simp)]; exact h.lots

set_option maxHeartbeats 2000000 in
theorem cnode0 (c N : Nat) (l tr : Value) (w : World) (h : CloudAt w c N l tr) :
    Calls Tryz.prog 22 #[.pointer (some ⟨c, 0, none⟩), .int .i64 0] w fun e w' => e = .returned (.pointer (some ⟨N, 0, none⟩)) ∧ w' = w := by
  have c0 := h.c0
  have n := h.n
  clear h
  go_enter Tryz.func22, Tryz.ntmps22
  go_wp2
  go_ret
  exact ⟨rfl, rfl⟩

theorem cput_nil (p : Value) (a : Option Addr) (c : Nat) (w : World) :
    Calls Tryz.prog 124 #[p, .slice a 0 c] w fun e w' => e = .returned (.tuple #[]) ∧ w' = w := by
  go_enter Tryz.func124, Tryz.ntmps124
  go_wp2_with fail
  refine wp_loop_rounds 1 ?_
  rw [rounds_succ]
  go_wp2
  refine bodyPost_end (results_none rfl _ _ _) rfl ?_
  exact ⟨rfl, rfl⟩

end Go.Proofs.YtaaaiggbnkeblaaGreatDoor

namespace Go.Proofs.YtaaaiggbnkeblaaGreatDoor
set_option linter.unusedSimpArgs false
set_option linter.unusedVariables false
open Go.RowKit

set_option maxHeartbeats 4000000 in
theorem rsame_one (a b : Addr) (c d : Nat) (t : ByteArray) (w : World) (ha : w.cell? a = some (.string t)) (hb : w.cell? b = some (.string t)) :
    Calls Tryz.prog 27 #[.slice (some a) 1 c, .slice (some b) 1 d] w fun e w' => e = .returned (.bool true) ∧ Mod [] w w' := by
  have hneq : ∀ w : World, (binOp .neq 9 (.string t) (.string t)).run Tryz.prog w = .ok (.bool false) w := fun w => by simp [binOp, Op.stringOp, go_sem]
  have hla := block_lt_of_cell ha
  have hlb := block_lt_of_cell hb
  go_enter Tryz.func27, Tryz.ntmps27
  go_wp2_with fail
  refine wp_loop_rounds 2 ?_
  rw [rounds_succ]
  go_wp2_with fail
  go_region
  all_goals
    go_wp2_with fail
    rw [rounds_succ]
    go_wp2
    go_ret
    exact ⟨rfl, (Mod.refl [] _).drew⟩

/-- An entry of a trace, as cells: its node, whether it was sent, the event. -/
def entV (node : Int) (sent : Bool) (kind id ms n s num : Int) (t : ByteArray) : Value :=
  .agg #[.int .i64 node, .bool sent, .int .i64 kind, .int .u64 id, .int .u64 ms, .int .u64 n, .int .i64 s, .int .u64 num, .string t]

set_option maxHeartbeats 4000000 in
theorem rdelivered_is (node : Int) (sent : Bool) (kind id ms n s num : Int) (t : ByteArray) (w : World) :
    Calls Tryz.prog 77 #[.agg #[.int .i64 node, .bool sent, .int .i64 kind, .int .u64 id, .int .u64 ms, .int .u64 n, .int .i64 s, .int .u64 num, .string t]] w fun e w' => e = .returned (.bool (!sent && (kind == 2))) ∧ Mod [] w w' := by
  cases sent
  all_goals
    go_enter Tryz.func77, Tryz.ntmps77
    go_wp2
    go_ret
    exact ⟨by simp, (Mod.refl [] _).alloc _⟩

end Go.Proofs.YtaaaiggbnkeblaaGreatDoor

namespace Go.Proofs.YtaaaiggbnkeblaaGreatDoor
set_option linter.unusedSimpArgs false
set_option linter.unusedVariables false
open Go.RowKit

set_option maxRecDepth 100000 in
set_option maxHeartbeats 4000000 in
theorem nclosing0 (N D K S r : Nat) (ev : Value) (was now : Int) (w : World) (h : NodeAt w N D K (some ⟨S, 0, none⟩) ev was) (hs : w.cell? ⟨S, 1, none⟩ = some (.int .u64 1)) (hd : DetAt w D r now) (ht : Tab w) :
    Calls Tryz.prog 220 #[.pointer (some ⟨N, 0, none⟩)] w fun e w' => e = .returned (.bool false) ∧ Mod [] w w' := by
  have H := Lib.hid h
  have HD := Lib.hid hd
  have HT := Lib.hid ht
  have c0 := h.c0
  clear h hd ht
  have hb : bits .and .u64 1 1 = 1 := by decide
  have hb0 : bits .and .u64 0 1 = 0 := by decide
  go_enter Tryz.func220, Tryz.ntmps220
  go_wp2_with fail
  go_region_held3 (fun w' => w'.cell? ⟨N, 0, none⟩ = some (.pointer (some ⟨S, 0, none⟩)) ∧ w'.cell? ⟨S, 1, none⟩ = some (.int .u64 1)) (first | exact ⟨c0, hs⟩ | exact ⟨HM6.out.at c0 (by simp), HM6.out.at hs (by simp)⟩) ((go_at_call 221; refine (nlive0 N D K r (some ⟨S, 0, none⟩) ev was now _ (H.out.mod (Mod.refl [] _).drew (by simp)) (HD.out.mod (Mod.refl [] _).drew (by simp) (by simp)) (HT.out.mod (Mod.refl [] _).drew (by simp))).mono ?_; rintro e w6 ⟨rfl, hM6⟩; have HM6 := Lib.hid ((Mod.refl [] w).drew.trans hM6); clear hM6))
  have HT6 := Lib.hid (HT.out.mod HM6.out (by simp))
  have d0 := HM6.out.at c0 (by simp)
  have d2 := HM6.out.at H.out.c2 (by simp)
  have d6 := HM6.out.at H.out.c6 (by simp)
  have ds := HM6.out.at hs (by simp)
  clear c0 hs
  go_wp2_with fail
  refine (first_is 1 0 (by decide) (by decide) (by decide) _ HT6.out).mono ?_
  rintro e w7 ⟨rfl, rfl⟩
  go_wp2_with fail
  go_region_held3 (fun w' => w'.cell? ⟨N, 0, none⟩ = some (.pointer (some ⟨S, 0, none⟩)) ∧ w'.cell? ⟨S, 1, none⟩ = some (.int .u64 1) ∧ w'.cell? ⟨N, 2, none⟩ = some (.int .i64 0) ∧ w'.cell? ⟨N, 6, none⟩ = some (.int .u64 0)) (first | exact ⟨d0, ds, d2, d6⟩ | exact ⟨HM8.out.at d0 (by simp), HM8.out.at ds (by simp), HM8.out.at d2 (by simp), HM8.out.at d6 (by simp)⟩) ((go_at_call 221; refine (nlive0 N D K r (some ⟨S, 0, none⟩) ev was now _ ((H.out.mod HM6.out (by simp)).mod (Mod.refl [] _).drew (by simp)) ((HD.out.mod HM6.out (by simp) (by simp)).mod (Mod.refl [] _).drew (by simp) (by simp)) (HT6.out.mod (Mod.refl [] _).drew (by simp))).mono ?_; rintro e w8 ⟨rfl, hM8⟩; have HM8 := Lib.hid ((Mod.refl [] _).drew.trans hM8); clear hM8))
  go_wp2
  go_ret
  exact ⟨rfl, HM6.out.trans HM8.out⟩

set_option maxRecDepth 100000 in
set_option maxHeartbeats 4000000 in
theorem nclose0 (N D K S r H T L R : Nat) (ck : Option Addr) (ev : Value) (was now n id ms met done quiet : Int) (w : World) (h : NodeAt w N D K (some ⟨S, 0, none⟩) ev was) (hs : RowAt w S #[.int .u64 1, .int .u64 1, .pointer (some ⟨H, 0, none⟩), .pointer (some ⟨T, 0, none⟩), .pointer ck, .int .u64 met, .map (some L), .int .u64 done, .int .u64 0, .map (some R), .int .i64 quiet, .bool false]) (hu : Turn0 w T n id ms) (hd : DetAt w D r now) (ht : Tab w)
    (hq : 0 ≤ quiet ∧ quiet < 1000) (hne : N ≠ S ∧ D ≠ S ∧ r ≠ S ∧ 1 ≠ S) :
    Calls Tryz.prog 167 #[.pointer (some ⟨N, 0, none⟩)] w fun e w' => e = .returned (.slice none 0 0) ∧ RowAt w' S #[.int .u64 1, .int .u64 1, .pointer (some ⟨H, 0, none⟩), .pointer (some ⟨T, 0, none⟩), .pointer ck, .int .u64 met, .map (some L), .int .u64 done, .int .u64 0, .map (some R), .int .i64 (quiet + 1), .bool false] ∧ Mod [S] w w' := by
  have HN := Lib.hid h
  have HS := Lib.hid hs
  have HD := Lib.hid hd
  have HT := Lib.hid ht
  have HX := Lib.hid hne
  have c0 := h.c0
  have s3 := hs.2.1 3 _ rfl
  have hq1 : wrap64 (quiet + 1) = quiet + 1 := wrap_small (by omega) (by omega)
  clear h hs hd ht hne hq
  go_enter Tryz.func167, Tryz.ntmps167
  go_wp2_with fail
  refine (turn_decided T n id ms _ hu).mono ?_
  rintro e w1 ⟨rfl, hM⟩
  have HM1 := Lib.hid (hM.alloc (.cells #[.int .u64 0, .int .u64 0] 45))
  have HS1 := Lib.hid (HS.out.mod HM1.out (by simp))
  have d0 := HM1.out.at c0 (by simp)
  have d10 := HS1.out.2.1 10 _ rfl
  have f10 := HS1.out.2.2 10
  clear hM c0 s3
  have hX := HX.out
  have hm2 : Mod [S] (w1.alloc (.cells #[.int .u64 0, .int .u64 0] 45)) ((w1.alloc (.cells #[.int .u64 0, .int .u64 0] 45)).setCell ⟨S, 10, none⟩ (.int .i64 (quiet + 1))) := (Mod.refl _ _).setCell (.inl (by simp)) _
  have HS2 := Lib.hid (HS1.out.set (k := 10) (v := .int .i64 (quiet + 1)) rfl (by simp))
  have HN2 := Lib.hid ((HN.out.mod HM1.out (by simp)).mod hm2 (by simpa using hX.1))
  have HD2 := Lib.hid ((HD.out.mod HM1.out (by simp) (by simp)).mod hm2 (by simpa using hX.2.1) (by simpa using hX.2.2.1))
  have HT2 := Lib.hid ((HT.out.mod HM1.out (by simp)).mod hm2 (by simpa using hX.2.2.2))
  have HM2 := Lib.hid ((HM1.out.mono (by simp)).trans hm2)
  clear hX hm2
  go_upto_region 5 with fail
  generalize (w1.alloc (.cells #[.int .u64 0, .int .u64 0] 45)).setCell ⟨S, 10, none⟩ (.int .i64 (quiet + 1)) = W at HS2 HN2 HD2 HT2 HM2 ⊢
  clear d0 d10 f10 HS1 HM1 HN HS HD HT HX
  have d0 := HN2.out.c0
  have d11 : W.cell? ⟨S, 11, none⟩ = some (.bool false) := HS2.out.2.1 11 _ rfl
  have d1 : W.cell? ⟨S, 1, none⟩ = some (.int .u64 1) := HS2.out.2.1 1 _ rfl
  go_wp2_with fail
  refine (nclosing0 N D K S r ev was now _ HN2.out d1 HD2.out HT2.out).mono ?_
  rintro e w3 ⟨rfl, hM3⟩
  have HM3 := Lib.hid hM3
  clear hM3
  go_wp2
  go_ret
  exact ⟨rfl, HS2.out.mod HM3.out (by simp), HM2.out.trans (HM3.out.mono (by simp))⟩

end Go.Proofs.YtaaaiggbnkeblaaGreatDoor
