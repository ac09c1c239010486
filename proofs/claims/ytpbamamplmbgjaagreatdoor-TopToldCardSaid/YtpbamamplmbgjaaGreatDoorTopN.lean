/-
  The walks of a member's small methods: New, View, Waits, Poll, Send.
-/
import Derived.Test.YtpbamamplmbgjaaGreatDoorTopQ
import Derived.Test.YtpbamamplmbgjaaGreatDoorTopT
import Derived.Test.YtpbamamplmbgjaaGreatDoorDeskC
namespace Go.Proofs.YtpbamamplmbgjaaGreatDoor
set_option linter.unusedSimpArgs false
set_option linter.unusedVariables false
open Go.RowKit

/-- A node 0 at block N: its detector at D, its desk at K; its view, its events, its greatest Id. -/
structure NodeAt (w : World) (N D K : Nat) (sit : Option Addr) (ev : Value) (was : Int) : Prop where
  c0 : w.cell? ⟨N, 0, none⟩ = some (.pointer sit)
  c1 : w.cell? ⟨N, 1, none⟩ = some (.pointer none)
  c2 : w.cell? ⟨N, 2, none⟩ = some (.int .i64 0)
  c3 : w.cell? ⟨N, 3, none⟩ = some (.pointer (some ⟨D, 0, none⟩))
  c4 : w.cell? ⟨N, 4, none⟩ = some (.pointer (some ⟨K, 0, none⟩))
  c5 : w.cell? ⟨N, 5, none⟩ = some ev
  c6 : w.cell? ⟨N, 6, none⟩ = some (.int .u64 0)
  c8 : w.cell? ⟨N, 8, none⟩ = some (.bool false)
  c9 : w.cell? ⟨N, 9, none⟩ = some (.int .u64 was)
  c10 : w.cell? ⟨N, 10, none⟩ = some (.bool false)
  free : ∀ j, w.frozen? ⟨N, j, none⟩ = false

theorem NodeAt.lt {w : World} {N D K : Nat} {sit : Option Addr} {ev : Value} {was : Int} (h : NodeAt w N D K sit ev was) : N < w.heap.size := block_lt_of_cell h.c0
theorem NodeAt.mod {S : List Nat} {w w' : World} {N D K : Nat} {sit : Option Addr} {ev : Value} {was : Int} (h : NodeAt w N D K sit ev was) (hm : Mod S w w') (hn : N ∉ S) : NodeAt w' N D K sit ev was :=
  ⟨hm.at h.c0 hn, hm.at h.c1 hn, hm.at h.c2 hn, hm.at h.c3 hn, hm.at h.c4 hn, hm.at h.c5 hn, hm.at h.c6 hn, hm.at h.c8 hn, hm.at h.c9 hn, hm.at h.c10 hn, fun j => (hm.frozen (by exact h.lt) hn).trans (h.free j)⟩
theorem NodeAt.setEv {w : World} {N D K : Nat} {sit : Option Addr} {ev : Value} {was : Int} (h : NodeAt w N D K sit ev was) (v : Value) : NodeAt (w.setCell ⟨N, 5, none⟩ v) N D K sit v was := by
  refine ⟨?_, ?_, ?_, ?_, ?_, cell_set_same h.c5, ?_, ?_, ?_, ?_, fun j => (frozen_set _ _ _ _).trans (h.free j)⟩
  · rw [cell_set_off _ _ _ _ (by simp)]; exact h.c0
  · rw [cell_set_off _ _ _ _ (by simp)]; exact h.c1
  · rw [cell_set_off _ _ _ _ (by simp)]; exact h.c2
  · rw [cell_set_off _ _ _ _ (by simp)]; exact h.c3
  · rw [cell_set_off _ _ _ _ (by simp)]; exact h.c4
  · rw [cell_set_off _ _ _ _ (by simp)]; exact h.c6
  · rw [cell_set_off _ _ _ _ (by simp)]; exact h.c8
  · rw [cell_set_off _ _ _ _ (by simp)]; exact h.c9
  · rw [cell_set_off _ _ _ _ (by simp)]; exact h.c10

/-- A block's cells, none frozen. -/
def RowAt (w : World) (S : Nat) (cs : Array Value) : Prop := 0 < cs.size ∧ (∀ j v, cs[j]? = some v → w.cell? ⟨S, j, none⟩ = some v) ∧ ∀ j, w.frozen? ⟨S, j, none⟩ = false
theorem RowAt.of_row {w : World} {S : Nat} {cs : Array Value} {t : TypeId} (h : w.heap[S]? = some (.cells cs t (0, 0))) (h0 : 0 < cs.size) : RowAt w S cs := ⟨h0, fun _ _ hj => cell_in h hj, fun _ => free_in h⟩
theorem RowAt.lt {w : World} {S : Nat} {cs : Array Value} (h : RowAt w S cs) : S < w.heap.size := block_lt_of_cell (h.2.1 0 _ (Array.getElem?_eq_getElem h.1))
theorem RowAt.mod {X : List Nat} {w w' : World} {S : Nat} {cs : Array Value} (h : RowAt w S cs) (hm : Mod X w w') (hs : S ∉ X) : RowAt w' S cs :=
  ⟨h.1, fun j v hj => hm.at (h.2.1 j v hj) hs, fun j => (hm.frozen (by exact h.lt) hs).trans (h.2.2 j)⟩
theorem RowAt.set {w : World} {S k : Nat} {cs cs' : Array Value} {v : Value} (h : RowAt w S cs) (hc : cs.setIfInBounds k v = cs') (hk : k < cs.size) : RowAt (w.setCell ⟨S, k, none⟩ v) S cs' := by
  subst hc
  refine ⟨by rw [Array.size_setIfInBounds]; exact h.1, fun j u hj => ?_, fun j => (frozen_set _ _ _ _).trans (h.2.2 j)⟩
  by_cases e : j = k
  · subst e
    rw [Array.getElem?_setIfInBounds_self_of_lt hk] at hj
    cases hj
    exact cell_set_same (h.2.1 j _ (Array.getElem?_eq_getElem hk))
  · rw [Array.getElem?_setIfInBounds_ne (fun e2 => e e2.symm)] at hj
    rw [cell_set_off _ _ _ _ (by simp; omega)]
    exact h.2.1 j u hj

theorem NodeAt.seat {w : World} {N D K : Nat} {ev : Value} {was : Int} (h : NodeAt w N D K none ev was) (S : Nat) (v : Int) :
    NodeAt ((((w.setCell ⟨N, 1, none⟩ (.pointer none)).setCell ⟨N, 0, none⟩ (.pointer (some ⟨S, 0, none⟩))).setCell ⟨N, 9, none⟩ (.int .u64 v)).setCell ⟨N, 8, none⟩ (.bool false)).drew N D K (some ⟨S, 0, none⟩) ev v := by
  have off : ∀ j : Nat, j ≠ 0 → j ≠ 1 → j ≠ 8 → j ≠ 9 → ((((w.setCell ⟨N, 1, none⟩ (.pointer none)).setCell ⟨N, 0, none⟩ (.pointer (some ⟨S, 0, none⟩))).setCell ⟨N, 9, none⟩ (.int .u64 v)).setCell ⟨N, 8, none⟩ (.bool false)).cell? ⟨N, j, none⟩ = w.cell? ⟨N, j, none⟩ := fun j h0 h1 h8 h9 => by
    rw [cell_set_off _ _ _ _ (by simp; omega), cell_set_off _ _ _ _ (by simp; omega), cell_set_off _ _ _ _ (by simp; omega), cell_set_off _ _ _ _ (by simp; omega)]
  refine NodeAt.mod (S := []) (w := (((w.setCell ⟨N, 1, none⟩ (.pointer none)).setCell ⟨N, 0, none⟩ (.pointer (some ⟨S, 0, none⟩))).setCell ⟨N, 9, none⟩ (.int .u64 v)).setCell ⟨N, 8, none⟩ (.bool false)) ?_ (Mod.refl [] _).drew (by simp)
  refine ⟨?_, ?_, ?_, ?_, ?_, ?_, ?_, ?_, ?_, ?_, fun j => ?_⟩
  · rw [cell_set_off _ _ _ _ (by simp), cell_set_off _ _ _ _ (by simp)]
    refine cell_set_same (u := .pointer none) ?_
    rw [cell_set_off _ _ _ _ (by simp)]; exact h.c0
  · rw [cell_set_off _ _ _ _ (by simp), cell_set_off _ _ _ _ (by simp), cell_set_off _ _ _ _ (by simp)]
    exact cell_set_same h.c1
  · rw [off 2 (by decide) (by decide) (by decide) (by decide)]; exact h.c2
  · rw [off 3 (by decide) (by decide) (by decide) (by decide)]; exact h.c3
  · rw [off 4 (by decide) (by decide) (by decide) (by decide)]; exact h.c4
  · rw [off 5 (by decide) (by decide) (by decide) (by decide)]; exact h.c5
  · rw [off 6 (by decide) (by decide) (by decide) (by decide)]; exact h.c6
  · refine cell_set_same (u := .bool false) ?_
    rw [cell_set_off _ _ _ _ (by simp), cell_set_off _ _ _ _ (by simp), cell_set_off _ _ _ _ (by simp)]; exact h.c8
  · rw [cell_set_off _ _ _ _ (by simp)]
    refine cell_set_same (u := .int .u64 was) ?_
    rw [cell_set_off _ _ _ _ (by simp), cell_set_off _ _ _ _ (by simp)]; exact h.c9
  · rw [off 10 (by decide) (by decide) (by decide) (by decide)]; exact h.c10
  · rw [frozen_set, frozen_set, frozen_set, frozen_set]; exact h.free j
theorem NodeAt.setSame {w : World} {N D K j : Nat} {sit : Option Addr} {ev : Value} {was : Int} {v : Value} (h : NodeAt w N D K sit ev was) (hv : w.cell? ⟨N, j, none⟩ = some v) : NodeAt (w.setCell ⟨N, j, none⟩ v) N D K sit ev was :=
  have e := set_same_cells hv
  ⟨(e _).trans h.c0, (e _).trans h.c1, (e _).trans h.c2, (e _).trans h.c3, (e _).trans h.c4, (e _).trans h.c5, (e _).trans h.c6, (e _).trans h.c8, (e _).trans h.c9, (e _).trans h.c10, fun j => (frozen_set _ _ _ _).trans (h.free j)⟩

def NewNode (w : World) (e : Ending) (w' : World) : Prop :=
  ∃ N D r K, e = .returned (.pointer (some ⟨N, 0, none⟩)) ∧ NodeAt w' N D K none (.slice none 0 0) 0 ∧ DetAt w' D r 0 ∧ DeskAt w' K 0 0 [] ∧ (w.heap.size ≤ D ∧ w.heap.size ≤ r ∧ D ≠ r ∧ D < K ∧ r < K ∧ K < N) ∧ Mod [] w w'

set_option maxRecDepth 100000 in
set_option maxHeartbeats 4000000 in
theorem newnode0 (w : World) : Calls Tryz.prog 88 #[.int .i64 0] w (NewNode w) := by
  have hpn : ∀ (a : Addr) (w : World), (binOp .eql 79 (.pointer (some a)) (.pointer none)).run Tryz.prog w = .ok (.bool false) w := fun a w => by kernel_rfl
  go_enter Tryz.func88, Tryz.ntmps88
  go_wp2_with fail
  refine (det_new _).mono ?_
  rintro e w1 ⟨D, r, rfl, hD, hD0, hr0, hDr, hM1⟩
  have HD := Lib.hid hD
  have HS := Lib.hid (And.intro hD0 (And.intro hr0 hDr))
  have HM1 := Lib.hid hM1
  clear hD hD0 hr0 hDr hM1
  go_wp2_with fail
  refine (newdesk_any 0 0 _ (by decide) (by decide) (by decide)).mono ?_
  rintro e w2 ⟨K, rfl, hK0, hK, hM2⟩
  have HK := Lib.hid hK
  have HK0 := Lib.hid hK0
  have HM2 := Lib.hid hM2
  clear hK hK0 hM2
  go_wp2
  go_ret
  have hh := heap_new w2 (.cells #[.pointer none, .pointer none, .int .i64 0, .pointer (some ⟨D, 0, none⟩), .pointer (some ⟨K, 0, none⟩), .slice none 0 0, .int .u64 0, .int .i64 0, .bool false, .int .u64 0, .bool false] 254)
  have hD2 := HD.out.lt
  have hr2 := HD.out.roll0.lt
  have hk0 := HK0.out
  have hKl : K < w2.heap.size := by
    obtain ⟨_, _, hraw, _⟩ := HK.out
    exact hraw.lt
  obtain ⟨s1, s2, s3⟩ := HS.out
  refine ⟨w2.heap.size, D, r, K, rfl, ⟨cell_in hh rfl, cell_in hh rfl, cell_in hh rfl, cell_in hh rfl, cell_in hh rfl, cell_in hh rfl, cell_in hh rfl, cell_in hh rfl, cell_in hh rfl, cell_in hh rfl, fun j => free_in hh⟩, (HD.out.mod HM2.out (by simp) (by simp)).mod ((Mod.refl [] _).alloc _) (by simp) (by simp), HK.out.mod ((Mod.refl [] _).alloc _) (by simp), ⟨s1, s2, s3, by omega, by omega, by omega⟩, (HM1.out.trans HM2.out).alloc _⟩

theorem Tryz.size_view : (Tryz.prog.info? 57).map (·.size) = some 2 := by kernel_rfl

set_option maxRecDepth 100000 in
set_option maxHeartbeats 4000000 in
theorem nview_in (N D K S : Nat) (ev : Value) (was id ms : Int) (w : World) (h : NodeAt w N D K (some ⟨S, 0, none⟩) ev was) (h0 : w.cell? ⟨S, 0, none⟩ = some (.int .u64 id)) (h1 : w.cell? ⟨S, 1, none⟩ = some (.int .u64 ms)) :
    Calls Tryz.prog 94 #[.pointer (some ⟨N, 0, none⟩)] w fun e w' => e = .returned (.tuple #[.agg #[.int .u64 id, .int .u64 ms], .bool true]) ∧ Mod [] w w' := by
  have hpn : ∀ (a : Addr) (w : World), (binOp .eql 251 (.pointer (some a)) (.pointer none)).run Tryz.prog w = .ok (.bool false) w := fun a w => by kernel_rfl
  have hl := h.lt
  have hne : ¬ N = w.heap.size := by omega
  have hsl : S < w.heap.size := block_lt_of_cell h0
  have hnes : ¬ S = w.heap.size := by omega
  have c0 := h.c0
  clear h
  go_enter Tryz.func94, Tryz.ntmps94
  go_wp2
  refine bodyPost_ret (results_row_tmp rfl _ _ w.heap.size 57 _ (0, 0) _ rfl (heap_new _ _) Tryz.underlying57 rfl Tryz.size_view) rfl ?_
  exact ⟨rfl, (Mod.refl _ _).alloc _⟩

set_option maxHeartbeats 4000000 in
theorem nwaits_any (N D K : Nat) (sit : Option Addr) (ev : Value) (was me num : Int) (L : List M) (w : World) (h : NodeAt w N D K sit ev was) (hk : DeskAt w K me num L) (hL : L.length ≤ 8) :
    Calls Tryz.prog 178 #[.pointer (some ⟨N, 0, none⟩)] w fun e w' => e = .returned (.int .i64 L.length) ∧ Mod [] w w' := by
  have c4 := h.c4
  have HK := Lib.hid hk
  have HL := Lib.hid hL
  clear h hk hL
  go_enter Tryz.func178, Tryz.ntmps178
  go_wp2_with fail
  refine (waits_any K me num L 8 L.length _ HK.out (by have := HL.out; omega)).mono ?_
  rintro e w1 ⟨v, rfl, hO, hM⟩
  rw [List.take_length] at hO
  obtain ⟨a, c, rfl, _⟩ := hO.shape
  have HM := Lib.hid hM
  clear hO hM
  go_wp2
  go_ret
  exact ⟨rfl, HM.out⟩

set_option maxHeartbeats 4000000 in
theorem npoll_any (N D K : Nat) (sit : Option Addr) (ev : Value) (was : Int) (w : World) (h : NodeAt w N D K sit ev was) :
    Calls Tryz.prog 147 #[.pointer (some ⟨N, 0, none⟩)] w fun e w' => e = .returned ev ∧ NodeAt w' N D K sit (.slice none 0 0) was ∧ Mod [N] w w' := by
  have H := Lib.hid h
  have c5 := h.c5
  have f5 := h.free 5
  clear h
  go_enter Tryz.func147, Tryz.ntmps147
  go_wp2
  go_ret
  exact ⟨rfl, H.out.setEv _, (Mod.refl _ _).setCell (.inl (by simp)) _⟩

def NSendPost (w : World) (K : Nat) (me num : Int) (L : List M) (t : ByteArray) (e : Ending) (w' : World) : Prop :=
  e = .returned (.tuple #[mval (me, num + 1, t), .int .i64 0]) ∧ Mod [K] w w' ∧ DeskAt w' K me (num + 1) (L ++ [(me, num + 1, t)])

set_option maxRecDepth 100000 in
set_option maxHeartbeats 4000000 in
theorem nsend_ok (N D K S : Nat) (ev : Value) (was me num : Int) (L : List M) (t : ByteArray) (w : World) (h : NodeAt w N D K (some ⟨S, 0, none⟩) ev was) (hk : DeskAt w K me num L) (hs : sendErr num L.length t = 0) :
    Calls Tryz.prog 93 #[.pointer (some ⟨N, 0, none⟩), .string t] w (NSendPost w K me num L t) := by
  have hpn : ∀ (a : Addr) (w : World), (binOp .eql 251 (.pointer (some a)) (.pointer none)).run Tryz.prog w = .ok (.bool false) w := fun a w => by kernel_rfl
  have hl := h.lt
  have hne : ¬ N = w.heap.size := by omega
  have c0 := h.c0
  have c4 := h.c4
  have ht : t.size ≤ 64 := by
    unfold sendErr at hs
    by_cases h64 : 64 < t.size
    · rw [if_pos h64] at hs; omega
    · omega
  have HK := Lib.hid hk
  have HS := Lib.hid hs
  have HT := Lib.hid ht
  clear h hk hs ht
  go_enter Tryz.func93, Tryz.ntmps93
  go_wp2_with fail
  refine (send_any K me num L t _ (HK.out.mod ((Mod.refl [] _).alloc _) (by simp)) (by have := HT.out; omega)).mono ?_
  rintro e w1 ⟨rfl, hM, hD⟩
  rw [HS.out, if_pos rfl, if_pos rfl] at hD
  rw [HS.out, if_pos rfl]
  have hrow : w1.heap[w.heap.size]? = some (.cells #[.int .i64 0, .int .u64 0, .string ⟨#[]⟩] 189 (0, 0)) := by
    have hKl : K < w.heap.size := by
      obtain ⟨_, _, hraw, _⟩ := HK.out
      exact hraw.lt
    exact (hM.block w.heap.size (by simp) (by simp; omega)).trans (heap_new w _)
  have HM := Lib.hid hM
  have HD2 := Lib.hid hD
  have HR := Lib.hid hrow
  have r0 : w1.cell? ⟨w.heap.size, 0, none⟩ = some (.int .i64 0) := cell_in hrow rfl
  have r1 : w1.cell? ⟨w.heap.size, 1, none⟩ = some (.int .u64 0) := cell_in hrow rfl
  have r2 : w1.cell? ⟨w.heap.size, 2, none⟩ = some (.string ⟨#[]⟩) := cell_in hrow rfl
  have q0 : w1.frozen? ⟨w.heap.size, 0, none⟩ = false := free_in hrow
  have q1 : w1.frozen? ⟨w.heap.size, 1, none⟩ = false := free_in hrow
  have q2 : w1.frozen? ⟨w.heap.size, 2, none⟩ = false := free_in hrow
  clear hM hD hrow
  simp only [mval, mcells]
  go_wp2
  have hKl : K < w.heap.size := by
    obtain ⟨_, _, hraw, _⟩ := HK.out
    exact hraw.lt
  have z0 : (((w1.setCell ⟨w.heap.size, 0, none⟩ (.int .i64 me)).setCell ⟨w.heap.size, 1, none⟩ (.int .u64 (num + 1))).setCell ⟨w.heap.size, 2, none⟩ (.string t)).cell? ⟨w.heap.size, 0, none⟩ = some (.int .i64 me) := by
    rw [cell_set_off _ _ _ _ (by simp), cell_set_off _ _ _ _ (by simp)]
    exact cell_set_same r0
  have z1 : (((w1.setCell ⟨w.heap.size, 0, none⟩ (.int .i64 me)).setCell ⟨w.heap.size, 1, none⟩ (.int .u64 (num + 1))).setCell ⟨w.heap.size, 2, none⟩ (.string t)).cell? ⟨w.heap.size, 1, none⟩ = some (.int .u64 (num + 1)) := by
    rw [cell_set_off _ _ _ _ (by simp)]
    refine cell_set_same (u := .int .u64 0) ?_
    rw [cell_set_off _ _ _ _ (by simp)]
    exact r1
  have z2 : (((w1.setCell ⟨w.heap.size, 0, none⟩ (.int .i64 me)).setCell ⟨w.heap.size, 1, none⟩ (.int .u64 (num + 1))).setCell ⟨w.heap.size, 2, none⟩ (.string t)).cell? ⟨w.heap.size, 2, none⟩ = some (.string t) := by
    refine cell_set_same (u := .string ⟨#[]⟩) ?_
    rw [cell_set_off _ _ _ _ (by simp), cell_set_off _ _ _ _ (by simp)]
    exact r2
  refine bodyPost_ret (v := .tuple #[mval (me, num + 1, t), .int .i64 0]) (by simp [results, Tryz.results93, go_sem, mval, mcells, z0, z1, z2]) rfl ?_
  refine ⟨rfl, ((((Mod.refl [K] w).alloc _).trans HM.out).setCell (.inr (by simp)) _ |>.setCell (.inr (by simp)) _ |>.setCell (.inr (by simp)) _), HD2.out.mod (S := [w.heap.size]) ((((Mod.refl _ _).setCell (.inl (by simp)) _).setCell (.inl (by simp)) _).setCell (.inl (by simp)) _) (by simp; omega)⟩

end Go.Proofs.YtpbamamplmbgjaaGreatDoor
