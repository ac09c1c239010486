/-
  The walk of TopTold.
-/
import Derived.Test.YtpbamamplmbgjaaGreatDoorToldA
import Derived.Test.YtpbamamplmbgjaaGreatDoorTopSh
import Derived.IntWalk
namespace Go.Proofs.YtpbamamplmbgjaaGreatDoor
set_option linter.unusedSimpArgs false
set_option linter.unusedVariables false
open Go.RowKit

theorem pow_apart (s k : Nat) (hs : s < 8) (hk : k < 64) (h : s ≠ k) : (bits .and .u64 (2 ^ s) (2 ^ k) != 0) = false := by
  have h1 : ∀ s : Fin 8, ∀ k : Fin 64, s.val ≠ k.val → (bits .and .u64 (2 ^ s.val) (2 ^ k.val) != 0) = false := by decide +kernel
  exact h1 ⟨s, hs⟩ ⟨k, hk⟩ h
theorem pow_both (s k : Nat) (hs : s < 8) (hk : k < 64) : (bits .and .u64 (bits .or .u64 (2 ^ s) (2 ^ k)) (2 ^ k) != 0) = true := by
  have h1 : ∀ s : Fin 8, ∀ k : Fin 64, (bits .and .u64 (bits .or .u64 (2 ^ s.val) (2 ^ k.val)) (2 ^ k.val) != 0) = true := by decide +kernel
  exact h1 ⟨s, hs⟩ ⟨k, hk⟩

def ptrs (ds : List Nat) : List Value := ds.map fun d => Value.pointer (some ⟨d, 0, none⟩)
theorem ptrs_at {ds : List Nat} {s d : Nat} (h : ds[s]? = some d) : (ptrs ds)[s]? = some (.pointer (some ⟨d, 0, none⟩)) := by simp [ptrs, h]
theorem ptrs_snoc (ds : List Nat) (d : Nat) : ptrs (ds ++ [d]) = ptrs ds ++ [.pointer (some ⟨d, 0, none⟩)] := by simp [ptrs]
def rollNew (s : Nat) : Nat → Int × Int × Int := rollPut (fun _ => (0, 0, 0)) s (s, 0, 0)

theorem infoRollP : ∃ i, Tryz.prog.info? 29 = some i ∧ i.zero = some (.pointer none) ∧ i.size = 1 ∧ i.bytes ≤ 16 := by
  have h : (Tryz.prog.info? 29).map (fun i => (i.zero, i.size, decide (i.bytes ≤ 16))) = some (some (.pointer none), 1, true) := by kernel_rfl
  cases hi : Tryz.prog.info? 29 with
  | none => rw [hi] at h; cases h
  | some i =>
    rw [hi] at h
    simp at h
    exact ⟨i, rfl, h.1, h.2.1, h.2.2⟩
theorem infoQueueP : ∃ i, Tryz.prog.info? 31 = some i ∧ i.zero = some (.pointer none) ∧ i.size = 1 ∧ i.bytes ≤ 16 := by
  have h : (Tryz.prog.info? 31).map (fun i => (i.zero, i.size, decide (i.bytes ≤ 16))) = some (some (.pointer none), 1, true) := by kernel_rfl
  cases hi : Tryz.prog.info? 31 with
  | none => rw [hi] at h; cases h
  | some i =>
    rw [hi] at h
    simp at h
    exact ⟨i, rfl, h.1, h.2.1, h.2.2⟩

/-- The rolls and the queues so far. -/
structure RQ (w0 wr : World) (v1 v2 : Value) (rs qs : List Nat) : Prop where
  own1 : wr.ownsRow w0.heap.size 29 1 v1 rs.length (ptrs rs)
  own2 : wr.ownsRow w0.heap.size 31 1 v2 qs.length (ptrs qs)
  roll : ∀ (s r : Nat), rs[s]? = some r → RollAt wr r s (rollNew s) (2 ^ s) ∧ w0.heap.size ≤ r
  queue : ∀ (s q : Nat), qs[s]? = some q → (wr.cell? ⟨q, 0, none⟩ = some (.map none) ∧ wr.frozen? ⟨q, 0, none⟩ = false) ∧ w0.heap.size ≤ q
  apart : ∀ x ∈ rs ++ qs, v1.ownBlock ≠ some x ∧ v2.ownBlock ≠ some x
  two : ∀ x, v1.ownBlock = some x → v2.ownBlock ≠ some x
  nodup : (rs ++ qs).Nodup
  mod : Mod [] w0 wr

theorem RQ.lt {w0 wr : World} {v1 v2 : Value} {rs qs : List Nat} (h : RQ w0 wr v1 v2 rs qs) : ∀ x ∈ rs ++ qs, x < wr.heap.size := by
  intro x hx
  rcases List.mem_append.1 hx with hx | hx
  · obtain ⟨s, hs⟩ := List.mem_iff_getElem?.1 hx
    exact (h.roll s x hs).1.lt
  · obtain ⟨s, hs⟩ := List.mem_iff_getElem?.1 hx
    exact cell_lt' (h.queue s x hs).1.1

/-- One roll and one queue more. -/
theorem RQ.more {w0 wr w4 w5 w6 : World} {v1 v2 v1' v2' : Value} {rs qs : List Nat} {g1 g2 : Nat} {c1 c2 : Nat} {q : Nat} (h : RQ w0 wr v1 v2 rs qs) (hl : qs.length = rs.length)
    (hR4 : RollAt w4 wr.heap.size rs.length (rollNew rs.length) (2 ^ rs.length)) (hM4 : Mod [] wr w4)
    (hM5 : Mod v1.ownBlock.toList w4 w5) (hq : q = w5.heap.size) (hM6 : Mod v2.ownBlock.toList w5 w6)
    (hv1 : v1' = .slice (some ⟨g1, 0, none⟩) (rs.length + 1) c1) (hv2 : v2' = .slice (some ⟨g2, 0, none⟩) (qs.length + 1) c2)
    (ho1 : w5.ownsRow w0.heap.size 29 1 v1' (rs.length + 1) (ptrs rs ++ [.pointer (some ⟨wr.heap.size, 0, none⟩)]))
    (ho2 : w6.ownsRow w0.heap.size 31 1 v2' (qs.length + 1) (ptrs qs ++ [.pointer (some ⟨q, 0, none⟩)]))
    (hg1 : v1.ownBlock = some g1 ∨ w4.heap.size ≤ g1 ∧ g1 < w5.heap.size) (hg2 : v2.ownBlock = some g2 ∨ w5.heap.size < g2)
    (hqc : w6.cell? ⟨q, 0, none⟩ = some (.map none) ∧ w6.frozen? ⟨q, 0, none⟩ = false) : RQ w0 w6 v1' v2' (rs ++ [wr.heap.size]) (qs ++ [q]) := by
  have s4 := hM4.size
  have s4' := hR4.lt
  have s5 := hM5.size
  have s6 := hM6.size
  have s0 := h.mod.size
  have hlt := h.lt
  have hn1 : ∀ x, v1.ownBlock ≠ some x → x ∉ v1.ownBlock.toList := fun x hx hb => by rw [Option.mem_toList] at hb; exact hx hb
  have hn2 : ∀ x, v2.ownBlock ≠ some x → x ∉ v2.ownBlock.toList := fun x hx hb => by rw [Option.mem_toList] at hb; exact hx hb
  have hb1 : ∀ x, v1.ownBlock = some x → w0.heap.size ≤ x ∧ x < wr.heap.size := ownsRow_ge h.own1
  have hb2 : ∀ x, v2.ownBlock = some x → w0.heap.size ≤ x ∧ x < wr.heap.size := ownsRow_ge h.own2
  have e1 : v1'.ownBlock = some g1 := by rw [hv1]; rfl
  have e2 : v2'.ownBlock = some g2 := by rw [hv2]; rfl
  have hr2 : v2.ownBlock ≠ some wr.heap.size := fun e => by have := hb2 _ e; omega
  have hr1 : v1.ownBlock ≠ some wr.heap.size := fun e => by have := hb1 _ e; omega
  have hg12 : g1 ≠ g2 := fun e => by
    subst e
    rcases hg1 with a | a <;> rcases hg2 with b | b
    · exact h.two _ a b
    · have := hb1 _ a; omega
    · have := hb2 _ b; omega
    · omega
  have hg1o : v2.ownBlock ≠ some g1 := fun e => by
    rcases hg1 with a | a
    · exact h.two _ a e
    · have := hb2 _ e; omega
  refine ⟨?_, ?_, fun s x hs => ?_, fun s x hs => ?_, fun x hx => ?_, fun x hx e => ?_, ?_, ?_⟩
  · rw [List.length_append, ptrs_snoc]
    exact ownsRow_mod ho1 hM6 (fun b hb => by rw [e1] at hb; cases hb; exact hn2 _ hg1o)
  · rw [List.length_append, ptrs_snoc]
    exact ho2
  · by_cases hk : s < rs.length
    · rw [List.getElem?_append_left hk] at hs
      obtain ⟨h1, h2⟩ := h.roll s x hs
      have ha := h.apart x (List.mem_append_left _ (List.mem_of_getElem? hs))
      exact ⟨((h1.mod hM4 (by simp)).mod hM5 (hn1 _ ha.1)).mod hM6 (hn2 _ ha.2), h2⟩
    · rw [List.getElem?_append_right (by omega)] at hs
      have h4 : s - rs.length = 0 := by
        have := (List.getElem?_eq_some_iff.1 hs).1
        simp at this
        omega
      rw [h4] at hs
      obtain rfl : wr.heap.size = x := by simpa using hs
      obtain rfl : s = rs.length := by omega
      exact ⟨(hR4.mod hM5 (hn1 _ hr1)).mod hM6 (hn2 _ hr2), s0⟩
  · by_cases hk : s < qs.length
    · rw [List.getElem?_append_left hk] at hs
      obtain ⟨⟨h1, h1f⟩, h2⟩ := h.queue s x hs
      have hxl : x < wr.heap.size := cell_lt' h1
      have ha := h.apart x (List.mem_append_right _ (List.mem_of_getElem? hs))
      refine ⟨⟨hM6.at (hM5.at (hM4.at h1 (by simp)) (hn1 _ ha.1)) (hn2 _ ha.2), ?_⟩, h2⟩
      exact ((hM6.frozen (p := ⟨x, 0, none⟩) (show x < w5.heap.size by omega) (hn2 _ ha.2)).trans ((hM5.frozen (p := ⟨x, 0, none⟩) (show x < w4.heap.size by omega) (hn1 _ ha.1)).trans (hM4.frozen (p := ⟨x, 0, none⟩) hxl (by simp)))).trans h1f
    · rw [List.getElem?_append_right (by omega)] at hs
      have h4 : s - qs.length = 0 := by
        have := (List.getElem?_eq_some_iff.1 hs).1
        simp at this
        omega
      rw [h4] at hs
      obtain rfl : q = x := by simpa using hs
      exact ⟨hqc, by omega⟩
  · rw [e1, e2]
    have key : ∀ y, y < wr.heap.size → v1.ownBlock ≠ some y → v2.ownBlock ≠ some y → some g1 ≠ some y ∧ some g2 ≠ some y := fun y hy a b => by
      refine ⟨fun e => ?_, fun e => ?_⟩
      · cases e
        rcases hg1 with c | c
        · exact a c
        · omega
      · cases e
        rcases hg2 with c | c
        · exact b c
        · omega
    have hcase : (x ∈ rs ++ qs) ∨ x = wr.heap.size ∨ x = q := by
      simp at hx
      simp
      rcases hx with a | a | a | a
      · exact .inl (.inl a)
      · exact .inr (.inl a)
      · exact .inl (.inr a)
      · exact .inr (.inr a)
    rcases hcase with a | a | a
    · exact key x (hlt x a) (h.apart x a).1 (h.apart x a).2
    · subst a
      refine ⟨fun e => ?_, fun e => ?_⟩
      · cases e
        rcases hg1 with c | c
        · exact hr1 c
        · omega
      · cases e
        rcases hg2 with c | c
        · exact hr2 c
        · omega
    · subst a
      refine ⟨fun e => ?_, fun e => ?_⟩
      · cases e
        rcases hg1 with c | c
        · have := hb1 _ c; omega
        · omega
      · cases e
        rcases hg2 with c | c
        · have := hb2 _ c; omega
        · omega
  · rw [e1] at hx
    rw [e2] at e
    exact hg12 ((Option.some.inj hx).trans (Option.some.inj e).symm)
  · have hq' : ∀ x ∈ rs ++ qs, x ≠ wr.heap.size ∧ x ≠ q := fun x hx => by have := hlt x hx; omega
    have hnd := h.nodup
    rw [List.nodup_append] at hnd ⊢
    obtain ⟨n1, n2, n3⟩ := hnd
    refine ⟨?_, ?_, ?_⟩
    · rw [List.nodup_append]
      refine ⟨n1, by simp, fun a ha b hb => ?_⟩
      simp at hb
      subst hb
      exact (hq' a (List.mem_append_left _ ha)).1
    · rw [List.nodup_append]
      refine ⟨n2, by simp, fun a ha b hb => ?_⟩
      simp at hb
      subst hb
      exact (hq' a (List.mem_append_right _ ha)).2
    · intro a ha b hb
      simp at ha hb
      rcases ha with ha | ha <;> rcases hb with hb | hb
      · exact n3 a ha b hb
      · subst hb
        exact (hq' a (List.mem_append_left _ ha)).2
      · subst ha
        exact (hq' b (List.mem_append_right _ hb)).1.symm
      · omega
  · refine ((h.mod.trans hM4).step hM5 (fun x hx => ?_)).step hM6 (fun x hx => ?_)
    · rw [Option.mem_toList] at hx
      exact .inr (hb1 x hx).1
    · rw [Option.mem_toList] at hx
      exact .inr (hb2 x hx).1

/-- What stands still behind the first loop: all lies below M. -/
structure Fix (M n g1 g2 ub : Nat) (rs qs : List Nat) : Prop where
  lr : rs.length = n
  lq : qs.length = n
  lt : ∀ x ∈ rs ++ qs, x < M
  nodup : (rs ++ qs).Nodup
  g : g1 < M ∧ g2 < M ∧ ub < M
  out : g1 ∉ rs ++ qs ∧ g2 ∉ rs ++ qs ∧ ub ∉ rs ++ qs
theorem nodup_at {l : List Nat} (h : l.Nodup) {s t a b : Nat} (hs : l[s]? = some a) (ht : l[t]? = some b) (hst : s ≠ t) : a ≠ b := fun e2 => by
  subst e2
  have h1 := List.getElem?_eq_some_iff.1 hs
  have h2 := List.getElem?_eq_some_iff.1 ht
  have hnd := List.pairwise_iff_getElem.1 h
  rcases Nat.lt_or_gt_of_ne hst with h3 | h3
  · exact hnd _ _ h1.1 h2.1 h3 (h1.2.trans h2.2.symm)
  · exact hnd _ _ h2.1 h1.1 h3 (h2.2.trans h1.2.symm)
theorem Fix.rr {M n g1 g2 ub : Nat} {rs qs : List Nat} (h : Fix M n g1 g2 ub rs qs) {s t a b : Nat} (hs : rs[s]? = some a) (ht : rs[t]? = some b) (hst : s ≠ t) : a ≠ b :=
  nodup_at (List.nodup_append.1 h.nodup).1 hs ht hst
theorem Fix.qq {M n g1 g2 ub : Nat} {rs qs : List Nat} (h : Fix M n g1 g2 ub rs qs) {s t a b : Nat} (hs : qs[s]? = some a) (ht : qs[t]? = some b) (hst : s ≠ t) : a ≠ b :=
  nodup_at (List.nodup_append.1 h.nodup).2.1 hs ht hst
theorem Fix.rq {M n g1 g2 ub : Nat} {rs qs : List Nat} (h : Fix M n g1 g2 ub rs qs) {s t a b : Nat} (hs : rs[s]? = some a) (ht : qs[t]? = some b) : a ≠ b :=
  (List.nodup_append.1 h.nodup).2.2 a (List.mem_of_getElem? hs) b (List.mem_of_getElem? ht)
theorem Fix.rl {M n g1 g2 ub : Nat} {rs qs : List Nat} (h : Fix M n g1 g2 ub rs qs) {s a : Nat} (hs : rs[s]? = some a) : a < M ∧ a ≠ g1 ∧ a ≠ g2 ∧ a ≠ ub := by
  have hm := List.mem_append_left qs (List.mem_of_getElem? hs)
  exact ⟨h.lt a hm, fun e => h.out.1 (e ▸ hm), fun e => h.out.2.1 (e ▸ hm), fun e => h.out.2.2 (e ▸ hm)⟩
theorem Fix.ql {M n g1 g2 ub : Nat} {rs qs : List Nat} (h : Fix M n g1 g2 ub rs qs) {s a : Nat} (hs : qs[s]? = some a) : a < M ∧ a ≠ g1 ∧ a ≠ g2 ∧ a ≠ ub := by
  have hm := List.mem_append_right rs (List.mem_of_getElem? hs)
  exact ⟨h.lt a hm, fun e => h.out.1 (e ▸ hm), fun e => h.out.2.1 (e ▸ hm), fun e => h.out.2.2 (e ▸ hm)⟩

def toldRoll (w : World) (r s un : Nat) (inc st : Int) : Prop := RollAt w r s (rollPut (rollNew s) un (un, inc, st)) (bits .or .u64 (2 ^ s) (2 ^ un))
/-- The first i rolls know of the update, the other ones and their queues don't. -/
structure Known (w : World) (g1 g2 ub : Nat) (rs qs : List Nat) (un : Nat) (inc st : Int) (i : Nat) : Prop where
  c1 : ∀ (s r : Nat), rs[s]? = some r → w.cell? ⟨g1, s, none⟩ = some (.pointer (some ⟨r, 0, none⟩))
  c2 : ∀ (s q : Nat), qs[s]? = some q → w.cell? ⟨g2, s, none⟩ = some (.pointer (some ⟨q, 0, none⟩))
  u : UpdAt w ub (un, inc, st)
  told : ∀ (s r : Nat), rs[s]? = some r → s < i → toldRoll w r s un inc st
  news : ∀ (s r : Nat), rs[s]? = some r → i ≤ s → RollAt w r s (rollNew s) (2 ^ s)
  qs : ∀ (s q : Nat), qs[s]? = some q → i ≤ s → w.cell? ⟨q, 0, none⟩ = some (.map none) ∧ w.frozen? ⟨q, 0, none⟩ = false
def QHas (w : World) (M : Nat) (q : Nat) (u : Int × Int × Int) : Prop := ∃ b, w.cell? ⟨q, 0, none⟩ = some (.map (some b)) ∧ OneMap w b u 0 ∧ M ≤ b

theorem Known.mod {w w' : World} {M n g1 g2 ub : Nat} {rs qs : List Nat} {un : Nat} {inc st : Int} {i : Nat} {T : List Nat} (h : Known w g1 g2 ub rs qs un inc st i) (F : Fix M n g1 g2 ub rs qs) (hM : Mod T w w') (hT : ∀ x ∈ T, M ≤ x) : Known w' g1 g2 ub rs qs un inc st i := by
  have ho : ∀ x, x < M → x ∉ T := fun x hx hm => by have := hT x hm; omega
  have hg := F.g
  refine ⟨fun s r hs => hM.at (h.c1 s r hs) (ho _ hg.1), fun s q hs => hM.at (h.c2 s q hs) (ho _ hg.2.1), ⟨hM.at h.u.1 (ho _ hg.2.2), hM.at h.u.2.1 (ho _ hg.2.2), hM.at h.u.2.2 (ho _ hg.2.2)⟩,
    fun s r hs hi => (h.told s r hs hi).mod hM (ho _ (F.rl hs).1), fun s r hs hi => (h.news s r hs hi).mod hM (ho _ (F.rl hs).1), fun s q hs hi => ?_⟩
  have h1 := h.qs s q hs hi
  exact ⟨hM.at h1.1 (ho _ (F.ql hs).1), (hM.frozen (p := ⟨q, 0, none⟩) (cell_lt' h1.1) (ho _ (F.ql hs).1)).trans h1.2⟩

/-- The next one hears of it, and it is put into its queue. -/
theorem Known.next {w wb wc : World} {M n g1 g2 ub : Nat} {rs qs : List Nat} {un : Nat} {inc st : Int} {i r q : Nat} (h : Known w g1 g2 ub rs qs un inc st i) (F : Fix M n g1 g2 ub rs qs) (hr : rs[i]? = some r) (hq : qs[i]? = some q)
    (hR : toldRoll wb r i un inc st) (hMb : Mod [r] w wb) (hMc : Mod [q] wb wc) : Known wc g1 g2 ub rs qs un inc st (i + 1) := by
  have lr := F.rl hr
  have lq := F.ql hq
  have hn : ∀ x, x ≠ r → x ≠ q → (∀ {v : Value} {j : Nat}, w.cell? ⟨x, j, none⟩ = some v → wc.cell? ⟨x, j, none⟩ = some v) := fun x h1 h2 v j hv => hMc.at (hMb.at hv (by simpa using h1)) (by simpa using h2)
  refine ⟨fun s r' hs => hn g1 (Ne.symm lr.2.1) (Ne.symm lq.2.1) (h.c1 s r' hs), fun s q' hs => hn g2 (Ne.symm lr.2.2.1) (Ne.symm lq.2.2.1) (h.c2 s q' hs), ⟨hn ub (Ne.symm lr.2.2.2) (Ne.symm lq.2.2.2) h.u.1, hn ub (Ne.symm lr.2.2.2) (Ne.symm lq.2.2.2) h.u.2.1, hn ub (Ne.symm lr.2.2.2) (Ne.symm lq.2.2.2) h.u.2.2⟩,
    fun s r' hs hi => ?_, fun s r' hs hi => ?_, fun s q' hs hi => ?_⟩
  · by_cases e : s = i
    · subst e
      rw [hr] at hs
      cases hs
      exact hR.mod hMc (by simpa using F.rq hr hq)
    · exact ((h.told s r' hs (by omega)).mod hMb (by simpa using F.rr hs hr e)).mod hMc (by simpa using F.rq hs hq)
  · exact ((h.news s r' hs (by omega)).mod hMb (by simpa using F.rr hs hr (by omega))).mod hMc (by simpa using F.rq hs hq)
  · have h1 := h.qs s q' hs (by omega)
    have e1 : q' ≠ r := fun e => F.rq hr hs e.symm
    have e2 : q' ≠ q := F.qq hs hq (by omega)
    refine ⟨hn q' e1 e2 h1.1, ?_⟩
    have l1 : q' < w.heap.size := cell_lt' h1.1
    have l2 := hMb.size
    exact ((hMc.frozen (p := ⟨q', 0, none⟩) (show q' < wb.heap.size by omega) (by simpa using e2)).trans (hMb.frozen (p := ⟨q', 0, none⟩) l1 (by simpa using e1))).trans h1.2

theorem round_less (j m : Nat) (h : j < m) : m - (intOf (.int .i64 ((j : Int) + 1))).toNat < m - (intOf (.int .i64 (j : Int))).toNat := by
  simp [intOf]
  omega
theorem next_num (j : Nat) : Value.int .i64 ((j : Int) + 1) = .int .i64 ((j + 1 : Nat) : Int) := by simp
theorem RQ.low {w0 wr : World} {v1 v2 : Value} {rs qs : List Nat} (h : RQ w0 wr v1 v2 rs qs) : ∀ x ∈ rs ++ qs, w0.heap.size ≤ x := by
  intro x hx
  rcases List.mem_append.1 hx with hx | hx
  · obtain ⟨s, hs⟩ := List.mem_iff_getElem?.1 hx
    exact (h.roll s x hs).2
  · obtain ⟨s, hs⟩ := List.mem_iff_getElem?.1 hx
    exact (h.queue s x hs).2
theorem row_shape {w : World} {B n : Nat} {e : TypeId} {v : Value} {xs : List Value} (h : w.ownsRow B e 1 v n xs) (hn : 0 < n) : ∃ g cap, v = .slice (some ⟨g, 0, none⟩) n cap := by
  obtain ⟨hl, h⟩ := h
  rcases h with ⟨rfl, h0⟩ | ⟨g, cap, cur, rfl, _⟩
  · omega
  · exact ⟨g, cap, rfl⟩
theorem RQ.start {w0 wr : World} {rs qs : List Nat} {g1 g2 n c1 c2 ub k : Nat} {inc st : Int} (h : RQ w0 wr (.slice (some ⟨g1, 0, none⟩) n c1) (.slice (some ⟨g2, 0, none⟩) n c2) rs qs) (h1 : rs.length = n) (h2 : qs.length = n)
    (hu : w0.heap[ub]? = some (.cells #[.int .i64 k, .int .u64 inc, .int .i64 st] 24 (0, 0))) : Fix wr.heap.size n g1 g2 ub rs qs ∧ Known wr g1 g2 ub rs qs k inc st 0 := by
  have hub : ub < w0.heap.size := (Array.getElem?_eq_some_iff.1 hu).1
  have hlow := h.low
  have hs := h.mod.size
  have hr := row_mod h.mod hu (by simp)
  have o1 := h.own1
  have o2 := h.own2
  rw [h1] at o1
  rw [h2] at o2
  refine ⟨⟨h1, h2, h.lt, h.nodup, ⟨(ownsRow_ge h.own1 g1 rfl).2, (ownsRow_ge h.own2 g2 rfl).2, by omega⟩, ⟨fun hx => (h.apart _ hx).1 rfl, fun hx => (h.apart _ hx).2 rfl, fun hx => by have := hlow _ hx; omega⟩⟩, ?_⟩
  exact ⟨fun s r hs => ownsRow_cells o1 s _ (ptrs_at hs), fun s r hs => ownsRow_cells o2 s _ (ptrs_at hs), ⟨cell_in hr rfl, cell_in hr rfl, cell_in hr rfl⟩, fun s r hs hi => by omega, fun s r hs _ => (h.roll s r hs).1, fun s q hs _ => (h.queue s q hs).1⟩

set_option maxRecDepth 100000 in
set_option maxHeartbeats 8000000 in
theorem walk_TopTold (w : World) (nb : Nat) (hnb : nb < 256) (un inc st : Int) (ht : Tab w) :
    Calls Tryz.prog 3 #[.int .u8 nb, .agg #[.int .i64 un, .int .u64 inc, .int .i64 st]] w (TruePost w) := by
  have hpn : ∀ (a : Addr) (w : World), (binOp .eql 29 (.pointer (some a)) (.pointer none)).run Tryz.prog w = .ok (.bool false) w := fun a w => by kernel_rfl
  obtain ⟨n, hn⟩ : ∃ n : Nat, 2 + nb % 6 = n := ⟨_, rfl⟩
  obtain ⟨mi, hrem⟩ : ∃ mi : Int, (nb : Int).tmod 6 = mi := ⟨_, rfl⟩
  have hadd : (2 : Int) + mi = n := by rw [Int.tmod_eq_emod_of_nonneg (by omega)] at hrem; omega
  have hn2 : 2 ≤ n ∧ n ≤ 7 := by omega
  have hm0 := (Mod.refl [] w).alloc (.cells #[.int .i64 un, .int .u64 inc, .int .i64 st] 24)
  have HM0 := Lib.hid hm0
  have HROW := Lib.hid (heap_new w (.cells #[.int .i64 un, .int .u64 inc, .int .i64 st] 24))
  have HT := Lib.hid ht
  have hnb0 : (nb : Int) < 256 := by omega
  have hwn : wrap64 (n : Int) = n := wrap_small (by omega) (by omega)
  clear hm0 ht hn
  cases hmay : mayB un st with
  | false =>
    have HMAY := Lib.hid hmay
    clear hmay
    go_enter Tryz.func3, Tryz.ntmps3
    go_wp2_with fail
    refine (rmay_no un inc st HMAY.out _).mono ?_
    rintro e w1 ⟨rfl, hM1⟩
    have HM1 := Lib.hid (HM0.out.trans hM1)
    clear hM1
    go_wp2_with fail
    refine (shown_is _ (HT.out.mod HM1.out (by simp))).mono ?_
    rintro e w2 ⟨rfl, hM2⟩
    have HM2 := Lib.hid (HM1.out.trans hM2)
    clear hM2
    go_wp2
    go_ret
    exact ⟨rfl, HM2.out⟩
  | true =>
    obtain ⟨hun, hst⟩ := mayB_true hmay
    by_cases hlt : un < (n : Int)
    · have HMAY := Lib.hid (And.intro hun hst)
      clear hmay hun hst
      go_enter Tryz.func3, Tryz.ntmps3
      go_wp2_with fail
      refine (rmay_is un inc st HMAY.out.1 HMAY.out.2 _).mono ?_
      rintro e w1 ⟨rfl, hM1⟩
      have c0 := cell_in (row_mod hM1 HROW.out (by simp)) (show (#[Value.int .i64 un, .int .u64 inc, .int .i64 st] : Array Value)[0]? = some (.int .i64 un) from rfl)
      have HM1 := Lib.hid (HM0.out.trans hM1)
      clear hM1
      go_wp2_with fail
      refine (shown_is _ (HT.out.mod HM1.out (by simp))).mono ?_
      rintro e w2 ⟨rfl, hM2⟩
      have HM2 := Lib.hid (HM1.out.trans hM2)
      clear hM2
      go_wp2
      go_ret
      exact ⟨rfl, HM2.out⟩
    · have q1 : decide (un < (n : Int)) = false := by simpa using hlt
      have HK0 := Lib.hid (show ((0 ≤ un ∧ un < 64) ∧ 0 ≤ st ∧ st ≤ 3) ∧ ¬ un < n from by omega)
      have HN := Lib.hid hn2
      clear hmay hun hst hn2 hlt
      go_enter Tryz.func3, Tryz.ntmps3
      go_wp2_with fail
      refine (rmay_is un inc st HK0.out.1.1 HK0.out.1.2 _).mono ?_
      rintro e w1 ⟨rfl, hM1⟩
      have c0 := cell_in (row_mod hM1 HROW.out (by simp)) (show (#[Value.int .i64 un, .int .u64 inc, .int .i64 st] : Array Value)[0]? = some (.int .i64 un) from rfl)
      have HM1 := Lib.hid (HM0.out.trans hM1)
      replace HROW := Lib.hid (row_mod hM1 HROW.out (by simp))
      clear hM1
      go_wp2_with fail
      refine (shown_is _ (HT.out.mod HM1.out (by simp))).mono ?_
      rintro e w2 ⟨rfl, hM2⟩
      have HM2 := Lib.hid (HM1.out.trans hM2)
      replace HROW := Lib.hid (row_mod hM2 HROW.out (by simp))
      have hub : w.heap.size < w2.heap.size := (Array.getElem?_eq_some_iff.1 HROW.out).1
      obtain ⟨k, rfl⟩ : ∃ k : Nat, un = (k : Int) := ⟨un.toNat, by have := HK0.out; omega⟩
      have HK := Lib.hid (show (k < 64 ∧ n ≤ k) ∧ 0 ≤ st ∧ st ≤ 3 from by have := HK0.out; omega)
      clear hM2 c0 HM1 HK0
      generalize w.heap.size = ub at HROW hub ⊢
      have hr1 : ((w2.alloc (.cells #[] 29)).alloc (.cells #[] 31)).heap[w2.heap.size]? = some (.cells #[] 29 (0, 0)) := row_alloc (heap_new _ _)
      have hr2 : ((w2.alloc (.cells #[] 29)).alloc (.cells #[] 31)).heap[w2.heap.size + 1]? = some (.cells #[] 31 (0, 0)) := heap_at _ _ _ (by simp)
      have hmr : Mod [] w2 ((w2.alloc (.cells #[] 29)).alloc (.cells #[] 31)) := ((Mod.refl [] _).alloc _).alloc _
      have hq0 : RQ w2 ((w2.alloc (.cells #[] 29)).alloc (.cells #[] 31)) (.slice (some ⟨w2.heap.size, 0, none⟩) 0 0) (.slice (some ⟨w2.heap.size + 1, 0, none⟩) 0 0) [] [] :=
        ⟨⟨rfl, .inr ⟨w2.heap.size, 0, #[], rfl, Nat.le_refl _, hr1, Nat.le_refl _, by simp, rfl, rfl⟩⟩, ⟨rfl, .inr ⟨w2.heap.size + 1, 0, #[], rfl, by omega, hr2, Nat.le_refl _, by simp, rfl, rfl⟩⟩, fun s r h => by simp at h, fun s r h => by simp at h, fun x h => by simp at h, fun x h1 h2 => by simp [Value.ownBlock] at h1 h2; omega, by simp, hmr⟩
      have HQ0 := Lib.hid hq0
      clear hr1 hr2 hmr hq0
      obtain ⟨i1, hi1, hz1, hs1', hb1⟩ := infoRollP
      obtain ⟨i2, hi2, hz2, hs2', hb2⟩ := infoQueueP
      have HIB := Lib.hid (And.intro hb1 hb2)
      have hn27 := HN.out
      clear hb1 hb2
      go_wp2_with fail
      generalize (w2.alloc (.cells #[] 29)).alloc (.cells #[] 31) = W3 at HQ0 ⊢
      go_loopw [6, 7, 8] (fun v1 v2 i wr => ∃ rs qs : List Nat, i = .int .i64 rs.length ∧ qs.length = rs.length ∧ rs.length ≤ n ∧ RQ w2 wr v1 v2 rs qs) (fun _ _ i _ => n - (intOf i).toNat)
      case atStart => exact ⟨[], [], rfl, rfl, by simp, HQ0.out⟩
      case round =>
        obtain ⟨rs, qs, rfl, hlen, hle, hD⟩ := hrel
        have HD := Lib.hid hD
        clear hD
        obtain ⟨m, hm⟩ : ∃ m, rs.length = m := ⟨_, rfl⟩
        rw [hm] at hlen hle
        rw [hm]
        have HMN := Lib.hid (And.intro hm hlen)
        clear hm hlen
        by_cases hlt : m < n
        · have hlt' : (m : Int) < n := by omega
          have hs2 := HD.out.mod.size
          go_wp2_with fail
          refine (roll_new m (by omega) _).mono ?_
          rintro e w4 ⟨rfl, hR4, hM4⟩
          have hown1 := ownsRow_mod (ownsRow_mod HD.out.own1 hM4 (by simp)) ((Mod.refl [] w4).alloc (.cells #[.pointer (some ⟨wr.heap.size, 0, none⟩)] 29)) (by simp)
          rw [HMN.out.1] at hown1
          have HEV := Lib.hid (World.news_of_block (heap_new w4 (.cells #[.pointer (some ⟨wr.heap.size, 0, none⟩)] 29)))
          have hby : (m + 1) * i1.bytes ≤ 140737488355328 := by
            have := Nat.mul_le_mul (show m + 1 ≤ 8 by omega) HIB.out.1
            omega
          have hby2 : (m + 1) * i2.bytes ≤ 140737488355328 := by
            have := Nat.mul_le_mul (show m + 1 ≤ 8 by omega) HIB.out.2
            omega
          have hmx : m + 1 ≤ maxLen := by unfold maxLen; omega
          have hbs : w2.heap.size ≤ (w4.alloc (.cells #[.pointer (some ⟨wr.heap.size, 0, none⟩)] 29)).heap.size := by
            have := hM4.size
            simp
            omega
          have HAR := Lib.hid (And.intro hown1 (And.intro hmx (And.intro hby (And.intro hbs hby2))))
          have HR4 := Lib.hid (And.intro hR4 hM4)
          clear hown1 hby hby2 hmx hbs hR4 hM4 hs2
          go_upto_region 13 with (at_builtin; with_reducible refine wpList_append_lies _ rfl (.tmp 48) (.tmp 50) 27 rfl w2.heap.size 29 i1 _ 1 i1.bytes Tryz.underlying27 hi1 hz1 hs1' rfl rfl (by decide) u6 m (ptrs rs) rfl HAR.out.1 ⟨w4.heap.size, 0, none⟩ 1 1 [.pointer (some ⟨wr.heap.size, 0, none⟩)] rfl rfl HEV.out (by simp [Value.oneCell']) (by decide) HAR.out.2.1 HAR.out.2.2.1 HAR.out.2.2.2.1 _ rfl ?_; intro g1 cap1 w5 hown hgrow hat hlt2)
          have hm5 : Mod u6.ownBlock.toList w4 w5 := Mod.grownRow ((Mod.refl _ _).alloc _) hgrow (fun b hb => .inl (by rw [hb]; simp))
          have hb2 := ownsRow_ge HD.out.own2
          have hown2 := ownsRow_mod (ownsRow_mod (ownsRow_mod HD.out.own2 HR4.out.2 (by simp)) hm5 (fun b hb hx => by rw [Option.mem_toList] at hx; exact HD.out.two b hx hb)) (((Mod.refl [] w5).alloc (.cells #[.map none] 34)).alloc (.cells #[.pointer (some ⟨w5.heap.size, 0, none⟩)] 31)) (by simp)
          rw [HMN.out.2] at hown2
          have HEV2 := Lib.hid (World.news_of_block (heap_at (w5.alloc (.cells #[.map none] 34)) (.cells #[.pointer (some ⟨w5.heap.size, 0, none⟩)] 31) (w5.heap.size + 1) (by simp)))
          have hbs2 : w2.heap.size ≤ ((w5.alloc (.cells #[.map none] 34)).alloc (.cells #[.pointer (some ⟨w5.heap.size, 0, none⟩)] 31)).heap.size := by
            have h1 := hm5.size
            have h2 := HR4.out.2.size
            have h3 := HD.out.mod.size
            simp
            omega
          have HG1 := Lib.hid (And.intro hown (And.intro hm5 (And.intro hat hlt2)))
          have HAR2 := Lib.hid (And.intro hown2 hbs2)
          clear hown hgrow hat hlt2 hm5 hown2 hbs2 hb2
          go_wp2_with (at_builtin; with_reducible refine wpList_append_lies _ rfl (.tmp 52) (.tmp 55) 28 rfl w2.heap.size 31 i2 _ 1 i2.bytes Tryz.underlying28 hi2 hz2 hs2' rfl rfl (by decide) u7 m (ptrs qs) rfl HAR2.out.1 ⟨w5.heap.size + 1, 0, none⟩ 1 1 [.pointer (some ⟨w5.heap.size, 0, none⟩)] rfl rfl HEV2.out (by simp [Value.oneCell']) (by decide) HAR.out.2.1 HAR.out.2.2.2.2 HAR2.out.2 _ rfl ?_; intro g2 cap2 w6 hown hgrow hat hlt2)
          have HG2 := Lib.hid (And.intro hown (And.intro hgrow (And.intro hat hlt2)))
          clear hown hgrow hat hlt2
          go_wp2_with fail
          go_roundw
          case rel =>
            obtain ⟨hm, hq⟩ := HMN.out
            obtain ⟨ho1, hm5, hat1, hl1⟩ := HG1.out
            obtain ⟨ho2, hgr, hat2, hl2⟩ := HG2.out
            obtain ⟨hR4, hM4⟩ := HR4.out
            have hb2 := ownsRow_ge HD.out.own2
            have h4 := hM4.size
            have h5 := hm5.size
            have hqrow := row_alloc (o := .cells #[.pointer (some ⟨w5.heap.size, 0, none⟩)] 31) (heap_new w5 (.cells #[.map none] 34))
            have hm6 : Mod u7.ownBlock.toList ((w5.alloc (.cells #[.map none] 34)).alloc (.cells #[.pointer (some ⟨w5.heap.size, 0, none⟩)] 31)) w6 := Mod.grownRow (Mod.refl _ _) hgr (fun b hb => .inl (by rw [hb]; simp))
            have hq6 := row_mod hm6 hqrow (fun hx => by rw [Option.mem_toList] at hx; have := hb2 _ hx; omega)
            have hM6 : Mod u7.ownBlock.toList w5 w6 := (((Mod.refl _ _).alloc _).alloc _).trans hm6
            subst hm
            refine ⟨rs ++ [wr.heap.size], qs ++ [w5.heap.size], by simp, by simp [hq], by simp; omega, HD.out.more hq hR4 hM4 hm5 rfl hM6 rfl (by rw [hq]) ho1 (by rw [hq]; exact ho2) ?_ ?_ ⟨cell_in hq6 rfl, free_in hq6⟩⟩
            · rcases hat1 with h | h
              · exact .inl h
              · exact .inr ⟨by simp at h; omega, hl1⟩
            · rcases hat2 with h | h
              · exact .inl h
              · exact .inr (by simp at h; omega)
          case measure => simp [intOf]; omega
        · skip
          obtain ⟨g1, cap1, rfl⟩ := row_shape HD.out.own1 (by have := HMN.out.1; have := HN.out; omega)
          obtain ⟨g2, cap2, rfl⟩ := row_shape HD.out.own2 (by have := HMN.out.2; have := HN.out; omega)
          have hD := HD.out
          rw [HMN.out.1, HMN.out.2] at hD
          rw [HMN.out.1, HMN.out.2]
          obtain rfl : m = n := by omega
          obtain ⟨hF, hK0⟩ := RQ.start hD HMN.out.1 HMN.out.2 HROW.out
          have HF := Lib.hid (And.intro hF (And.intro hD.low hD.mod))
          have HKN := Lib.hid hK0
          clear hD HD hF hK0 hlt hle
          generalize hMM : wr.heap.size = M at HF
          obtain ⟨r0, hr0⟩ : ∃ r0, rs[0]? = some r0 := ⟨_, List.getElem?_eq_getElem (by have := HMN.out.1; have := HN.out; omega)⟩
          obtain ⟨q0, hq0⟩ : ∃ q0, qs[0]? = some q0 := ⟨_, List.getElem?_eq_getElem (by have := HMN.out.2; have := HN.out; omega)⟩
          have h0n : (0 : Int) < m := by have := HN.out; omega
          have HR0 := Lib.hid (And.intro hr0 hq0)
          have k1 := HKN.out.c1 0 r0 hr0
          have u0 := HKN.out.u.1
          have u1 := HKN.out.u.2.1
          have u2 := HKN.out.u.2.2
          have HHN := Lib.hid (fun w' (hw : RollAt w' r0 (0 : Nat) (rollNew 0) (2 ^ 0)) => hear_new r0 0 k (by decide) HK.out.1.1 (by have := HK.out; have := HN.out; omega) inc st (2 ^ 0) (bits .or .u64 (2 ^ 0) (2 ^ k)) HK.out.2 (rollNew 0) w' hw (pow_apart 0 k (by decide) HK.out.1.1 (by have := HK.out; have := HN.out; omega)) rfl)
          have hRd := Lib.hid ((HKN.out.news 0 r0 hr0 (Nat.le_refl _)).mod (Mod.refl [] wr).drew (by simp))
          have hrl := HF.out.1.rl hr0
          have hNE := Lib.hid (show g1 ∉ [r0] ∧ ub ∉ [r0] from by simp; omega)
          clear hr0 hq0 hrl
          go_wp2_with fail
          have hm0 : (0 : Int) ≤ 0 := Int.le_refl _
          have h00 : 0 < m := by omega
          have HMM := Lib.hid hMM
          clear hMM
          go_region_held3 (fun w' => w'.cell? ⟨g1, 0, none⟩ = some (.pointer (some ⟨r0, 0, none⟩)) ∧ w'.cell? ⟨ub, 0, none⟩ = some (.int .i64 k) ∧ w'.cell? ⟨ub, 1, none⟩ = some (.int .u64 inc) ∧ w'.cell? ⟨ub, 2, none⟩ = some (.int .i64 st)) (first | exact ⟨k1, u0, u1, u2⟩ | exact ⟨HM5.out.2.at k1 hNE.out.1, HM5.out.2.at u0 hNE.out.2, HM5.out.2.at u1 hNE.out.2, HM5.out.2.at u2 hNE.out.2⟩) ((go_at_call 10; refine (HHN.out _ hRd.out).mono ?_; rintro e w5 ⟨rfl, hR5, hM5⟩; have HM5 := Lib.hid (And.intro hR5 ((Mod.refl [r0] wr).drew.trans hM5)); clear hR5 hM5))
          clear k1 u0 u1 u2
          have hq0 := HR0.out.2
          have hql := HF.out.1.ql hq0
          have hrq := HF.out.1.rq HR0.out.1 hq0
          have hrl := HF.out.1.rl HR0.out.1
          have hfg := HF.out.1.g
          have k2 := HM5.out.2.at (HKN.out.c2 0 q0 hq0) (by simp; omega)
          have u0 := HM5.out.2.at HKN.out.u.1 (by simp; omega)
          have u1 := HM5.out.2.at HKN.out.u.2.1 (by simp; omega)
          have u2 := HM5.out.2.at HKN.out.u.2.2 (by simp; omega)
          have hq5 := HM5.out.2.at (HKN.out.qs 0 q0 hq0 (Nat.le_refl _)).1 (by simpa using Ne.symm hrq)
          have hf5 := (HM5.out.2.frozen (p := ⟨q0, 0, none⟩) (cell_lt' (HKN.out.qs 0 q0 hq0 (Nat.le_refl _)).1) (by simpa using Ne.symm hrq)).trans (HKN.out.qs 0 q0 hq0 (Nat.le_refl _)).2
          have HPU := Lib.hid (show Calls Tryz.prog 11 #[.pointer (some ⟨q0, 0, none⟩), .agg #[.int .i64 k, .int .u64 inc, .int .i64 st]] w5.drew _ from qput_none q0 0 (k, inc, st) (by have := HK.out; simp; omega) HK.out.2 w5.drew hq5 hf5)
          have hNE2 := Lib.hid (show g2 ∉ [q0] ∧ ub ∉ [q0] from by simp; omega)
          clear hq5 hf5 hq0 hql hrq hrl hfg
          go_wp2_with fail
          go_region_held3 (fun w' => w'.cell? ⟨g2, 0, none⟩ = some (.pointer (some ⟨q0, 0, none⟩)) ∧ w'.cell? ⟨ub, 0, none⟩ = some (.int .i64 k) ∧ w'.cell? ⟨ub, 1, none⟩ = some (.int .u64 inc) ∧ w'.cell? ⟨ub, 2, none⟩ = some (.int .i64 st)) (first | exact ⟨k2, u0, u1, u2⟩ | exact ⟨HM6.out.2.at k2 hNE2.out.1, HM6.out.2.at u0 hNE2.out.2, HM6.out.2.at u1 hNE2.out.2, HM6.out.2.at u2 hNE2.out.2⟩) ((go_at_call 11; refine HPU.out.mono ?_; rintro e w6 ⟨rfl, hb6, _, _, hM6⟩; have HM6 := Lib.hid (And.intro hb6 ((Mod.refl [q0] w5).drew.trans hM6)); clear hM6 hb6))
          have hknown : Known w6 g1 g2 ub rs qs k inc st 1 := HKN.out.next HF.out.1 HR0.out.1 HR0.out.2 HM5.out.1 HM5.out.2 HM6.out.2
          have hqh : QHas w6 M q0 (k, inc, st) := by
            obtain ⟨b, hb1, hb2, hb3⟩ := HM6.out.1
            have h1 := HM5.out.2.size
            have hMM := HMM.out
            simp at hb3
            exact ⟨b, hb1, hb2, by omega⟩
          have hmod : Mod [] w w6 := by
            have l1 := HF.out.2.1 r0 (List.mem_append_left _ (List.mem_of_getElem? HR0.out.1))
            have l2 := HF.out.2.1 q0 (List.mem_append_right _ (List.mem_of_getElem? HR0.out.2))
            have h1 := HM2.out.size
            exact (((HM2.out.trans HF.out.2.2).step HM5.out.2 (fun x hx => .inr (by simp at hx; omega))).step HM6.out.2 (fun x hx => .inr (by simp at hx; omega)))
          have HS := Lib.hid (And.intro hknown (And.intro hqh hmod))
          clear hknown hqh hmod k2 u0 u1 u2 hm0 h00
          go_wp2_with fail
          have HLW := Lib.hid (show w.heap.size ≤ M from HMM.out ▸ Nat.le_trans HM2.out.size HF.out.2.2.size)
          have hz0 : ¬ (m : Int) = 0 := by omega
          go_loopw [10] (fun v wr' => ∃ i : Nat, v = .int .i64 i ∧ i ≤ m ∧ Known wr' g1 g2 ub rs qs k inc st (min (i + 1) m) ∧ (∀ q, i < m → qs[i]? = some q → QHas wr' M q (k, inc, st)) ∧ Mod [] w wr') (fun v _ => m - (intOf v).toNat)
          case atStart =>
            refine ⟨0, rfl, Nat.zero_le _, ?_, fun q _ hq => ?_, HS.out.2.2⟩
            · rw [Nat.min_eq_left (by omega)]
              exact HS.out.1
            · have := HR0.out.2
              rw [hq] at this
              cases this
              exact HS.out.2.1
          case round =>
            obtain ⟨i, rfl, hi, hK, hQ, hMw⟩ := hrel
            by_cases hlt : i < m
            · have hlt' : (i : Int) < m := by omega
              obtain ⟨qi, hqi⟩ : ∃ q, qs[i]? = some q := ⟨_, List.getElem?_eq_getElem (by have := HMN.out.2; omega)⟩
              obtain ⟨b, hb1, hb2, hb3⟩ := hQ qi hlt hqi
              have k2 := hK.c2 i qi hqi
              have HTA := Lib.hid (qtake_one qi 0 b m (k, inc, st) HN.out wr hb1 hb2)
              have HK1 := Lib.hid (And.intro hK (And.intro hMw hb3))
              have HBL := Lib.hid (show b < wr.heap.size from (Array.getElem?_eq_some_iff.1 (show wr.heap[b]? = _ from hb2)).1)
              have hi0 : (0 : Int) ≤ i := by omega
              clear hQ hK hMw hb1 hb2 hb3 hqi
              go_wp2_with fail
              refine HTA.out.mono ?_
              rintro _ wa ⟨g, cap, rfl, hg, hgl, hMa⟩
              have hge : M ≤ g := by
                have h1 := HK1.out.2.2
                have h2 := HBL.out
                omega
              have hKa := HK1.out.1.mod HF.out.1 hMa (fun x hx => by simp at hx; have := HK1.out.2.2; omega)
              have hMwa := HK1.out.2.1.step hMa (fun x hx => .inr (by simp at hx; have := HK1.out.2.2; have := HLW.out; omega))
              have HKA := Lib.hid (And.intro hKa (And.intro hMwa hge))
              have HG := Lib.hid hg
              clear hg hgl hMa hge hKa hMwa k2
              go_wp2_with fail
              refine wp_loop_rounds 2 ?_
              rw [rounds_succ]
              have e0 := HG.out.1
              have e1 := HG.out.2.1
              have e2 := HG.out.2.2
              by_cases hj : i + 1 < m
              · obtain ⟨j, hji⟩ : ∃ j, i + 1 = j := ⟨_, rfl⟩
                have hadj : (i : Int) + 1 = j := by omega
                have HRM := Lib.hid (show (j : Int).tmod m = j ∧ wrap64 (j : Int) = j from ⟨by rw [Int.tmod_eq_emod_of_nonneg (by omega), Int.emod_eq_of_lt (by omega) (by omega)], wrap_small (by omega) (by omega)⟩)
                have hj0 : (0 : Int) ≤ j := by omega
                have hjm : (j : Int) < m := by omega
                obtain ⟨rj, hrr⟩ : ∃ r, rs[j]? = some r := ⟨_, List.getElem?_eq_getElem (by have := HMN.out.1; omega)⟩
                obtain ⟨qj, hqq⟩ : ∃ q, qs[j]? = some q := ⟨_, List.getElem?_eq_getElem (by have := HMN.out.2; omega)⟩
                have hKJ := HKA.out.1
                rw [show min (i + 1) m = j by omega] at hKJ
                have k1 := hKJ.c1 j rj hrr
                have HHJ := Lib.hid (fun w' (hw : RollAt w' rj j (rollNew j) (2 ^ j)) => hear_new rj j k (by have := HN.out; omega) HK.out.1.1 (by have := HK.out; omega) inc st (2 ^ j) (bits .or .u64 (2 ^ j) (2 ^ k)) HK.out.2 (rollNew j) w' hw (pow_apart j k (by have := HN.out; omega) HK.out.1.1 (by have := HK.out; omega)) rfl)
                have HRJ := Lib.hid ((hKJ.news j rj hrr (Nat.le_refl _)).mod (Mod.refl [] wa).drew (by simp))
                have hrl := HF.out.1.rl hrr
                have hge := HKA.out.2.2
                have hNJ := Lib.hid (show g1 ∉ [rj] ∧ g ∉ [rj] from by simp; omega)
                have HJ := Lib.hid (And.intro hrr (And.intro hqq (And.intro hKJ hji)))
                clear hrr hqq hrl hge hKJ hji hj
                go_upto_region 23 with fail
                obtain ⟨hrj, hwj⟩ := HRM.out
                have HHY := Lib.hid (And.intro hlt (And.intro hj0 hjm))
                clear hlt hi hlt' hi0 hj0 hjm h0n hnb0 hrem hwn
                generalize hI : (i : Int) = I at hadj ⊢
                generalize hMI : (m : Int) = MI at hadd hrj hz0 ⊢
                generalize hJ : (j : Int) = J at hadj hrj hwj ⊢
                have HGE := Lib.hid (And.intro hI (And.intro hMI hJ))
                clear hI hMI hJ hadd
                go_upto_region 24 with fail
                clear hrj
                obtain ⟨hI, hMI, hJ⟩ := HGE.out
                subst hI hMI hJ
                obtain ⟨hlt, hj0, hjm⟩ := HHY.out
                go_region_held3 (fun w' => w'.cell? ⟨g1, j, none⟩ = some (.pointer (some ⟨rj, 0, none⟩)) ∧ w'.cell? ⟨g, 0, none⟩ = some (.int .i64 k) ∧ w'.cell? ⟨g, 1, none⟩ = some (.int .u64 inc) ∧ w'.cell? ⟨g, 2, none⟩ = some (.int .i64 st)) (first | exact ⟨k1, e0, e1, e2⟩ | exact ⟨HMb.out.2.at k1 hNJ.out.1, HMb.out.2.at e0 hNJ.out.2, HMb.out.2.at e1 hNJ.out.2, HMb.out.2.at e2 hNJ.out.2⟩) ((go_at_call 10; refine (HHJ.out _ HRJ.out).mono ?_; rintro _ wb ⟨rfl, hRb, hMb⟩; have HMb := Lib.hid (And.intro hRb ((Mod.refl [rj] wa).drew.trans hMb)); clear hRb hMb))
                clear k1
                replace e0 := HMb.out.2.at e0 hNJ.out.2
                replace e1 := HMb.out.2.at e1 hNJ.out.2
                replace e2 := HMb.out.2.at e2 hNJ.out.2
                have hqq := HJ.out.2.1
                have hql := HF.out.1.ql hqq
                have hrq := HF.out.1.rq HJ.out.1 hqq
                have hrl := HF.out.1.rl HJ.out.1
                have hge := HKA.out.2.2
                have hqs := HJ.out.2.2.1.qs j qj hqq (Nat.le_refl _)
                have k2 := HMb.out.2.at (HJ.out.2.2.1.c2 j qj hqq) (by simp; omega)
                have hq5 := HMb.out.2.at hqs.1 (by simpa using Ne.symm hrq)
                have hf5 := (HMb.out.2.frozen (p := ⟨qj, 0, none⟩) (cell_lt' hqs.1) (by simpa using Ne.symm hrq)).trans hqs.2
                have HPU := Lib.hid (show Calls Tryz.prog 11 #[.pointer (some ⟨qj, 0, none⟩), .agg #[.int .i64 k, .int .u64 inc, .int .i64 st]] wb.drew _ from qput_none qj 0 (k, inc, st) (by have := HK.out; simp; omega) HK.out.2 wb.drew hq5 hf5)
                have hNE2 := Lib.hid (show g2 ∉ [qj] ∧ g ∉ [qj] from by simp; omega)
                clear hq5 hf5 hqs hqq hql hrq hrl hge
                go_wp2_with fail
                go_region_held3 (fun w' => w'.cell? ⟨g2, j, none⟩ = some (.pointer (some ⟨qj, 0, none⟩)) ∧ w'.cell? ⟨g, 0, none⟩ = some (.int .i64 k) ∧ w'.cell? ⟨g, 1, none⟩ = some (.int .u64 inc) ∧ w'.cell? ⟨g, 2, none⟩ = some (.int .i64 st)) (first | exact ⟨k2, e0, e1, e2⟩ | exact ⟨HMc.out.2.at k2 hNE2.out.1, HMc.out.2.at e0 hNE2.out.2, HMc.out.2.at e1 hNE2.out.2, HMc.out.2.at e2 hNE2.out.2⟩) ((go_at_call 11; refine HPU.out.mono ?_; rintro _ wc ⟨rfl, hbc, _, _, hMc⟩; have HMc := Lib.hid (And.intro hbc ((Mod.refl [qj] wb).drew.trans hMc)); clear hMc hbc))
                clear k2 e0 e1 e2
                go_wp2_with fail
                rw [rounds_succ]
                go_wp2_with fail
                go_roundw
                case rel =>
                  have hji := HJ.out.2.2.2
                  have hkn := HJ.out.2.2.1.next HF.out.1 HJ.out.1 HJ.out.2.1 HMb.out.1 HMb.out.2 HMc.out.2
                  have l1 := HF.out.2.1 rj (List.mem_append_left _ (List.mem_of_getElem? HJ.out.1))
                  have l2 := HF.out.2.1 qj (List.mem_append_right _ (List.mem_of_getElem? HJ.out.2.1))
                  have hw2 := HM2.out.size
                  refine ⟨j, by go_num, by omega, ?_, fun q _ hq => ?_, (HKA.out.2.1.step HMb.out.2 (fun x hx => .inr (by simp at hx; omega))).step HMc.out.2 (fun x hx => .inr (by simp at hx; omega))⟩
                  · rw [show min (j + 1) m = j + 1 by omega]
                    exact hkn
                  · have := HJ.out.2.1
                    rw [hq] at this
                    cases this
                    obtain ⟨b', h1, h2, h3⟩ := HMc.out.1
                    have s1 := HMb.out.2.size
                    have s2 : M ≤ wa.heap.size := Nat.le_of_lt (Nat.lt_of_le_of_lt HKA.out.2.2 (cell_lt' HG.out.1))
                    simp at h3
                    exact ⟨b', h1, h2, by omega⟩
                case measure => simp [intOf]; omega
              · have him : i + 1 = m := by omega
                have hadj : (i : Int) + 1 = m := by omega
                have hrj : (m : Int).tmod m = 0 := Int.tmod_self
                have hwj : wrap64 (m : Int) = m := wrap_small (by have := HN.out; omega) (by have := HN.out; omega)
                have hKJ := HKA.out.1
                rw [show min (i + 1) m = m by omega] at hKJ
                have k1 := hKJ.c1 0 r0 HR0.out.1
                have hte := hKJ.told 0 r0 HR0.out.1 (by have := HN.out; omega)
                have HHJ := Lib.hid (fun w' (hw : toldRoll w' r0 0 k inc st) => hear_old r0 0 k (by decide) HK.out.1.1 (by have := HK.out; have := HN.out; omega) inc st _ HK.out.2 _ w' hw (pow_both 0 k (by decide) HK.out.1.1) (by simp [rollPut, or2, cmp3]))
                have HRJ := Lib.hid (show toldRoll wa.drew r0 0 k inc st from hte.mod (Mod.refl [] wa).drew (by simp))
                have HJ := Lib.hid (And.intro hKJ him)
                clear hKJ hte him hj
                go_wp2_with fail
                have hm0 : (0 : Int) ≤ 0 := Int.le_refl _
                have h00 : 0 < m := Nat.lt_of_lt_of_le (by decide) HN.out.1
                go_region_held3 (fun w' => w'.cell? ⟨g1, 0, none⟩ = some (.pointer (some ⟨r0, 0, none⟩)) ∧ w'.cell? ⟨g, 0, none⟩ = some (.int .i64 k) ∧ w'.cell? ⟨g, 1, none⟩ = some (.int .u64 inc) ∧ w'.cell? ⟨g, 2, none⟩ = some (.int .i64 st)) (first | exact ⟨k1, e0, e1, e2⟩ | exact ⟨HMb.out.at k1 (by simp), HMb.out.at e0 (by simp), HMb.out.at e1 (by simp), HMb.out.at e2 (by simp)⟩) ((go_at_call 10; refine (HHJ.out _ HRJ.out).mono ?_; rintro _ wb ⟨rfl, hMb⟩; have HMb := Lib.hid ((Mod.refl [] wa).drew.trans hMb); clear hMb))
                clear k1 e0 e1 e2
                go_wp2_with fail
                rw [rounds_succ]
                go_wp2_with fail
                go_roundw
                case rel =>
                  have him := HJ.out.2
                  refine ⟨m, by go_num, Nat.le_refl _, ?_, fun q h _ => absurd h (Nat.lt_irrefl _), HKA.out.2.1.trans HMb.out⟩
                  rw [Nat.min_eq_right (Nat.le_succ m)]
                  exact HJ.out.1.mod HF.out.1 HMb.out (by simp)
                case measure => simp [intOf]; omega
            · have him : i = m := Nat.le_antisymm hi (Nat.le_of_not_lt hlt)
              have hlt' : ¬ (i : Int) < m := fun h => hlt (Int.ofNat_lt.1 h)
              have hkn : Known wr g1 g2 ub rs qs k inc st m := by rw [him, Nat.min_eq_right (Nat.le_succ m)] at hK; exact hK
              have HKN2 := Lib.hid (And.intro hkn hMw)
              clear hK hQ hMw hkn hlt hi him
              go_wp2_with fail
              go_loopw [16] (fun v wr' => ∃ j : Nat, v = .int .i64 j ∧ j ≤ m ∧ Known wr' g1 g2 ub rs qs k inc st m ∧ Mod [] w wr') (fun v _ => m - (intOf v).toNat)
              case atStart => exact ⟨0, rfl, Nat.zero_le _, HKN2.out.1, HKN2.out.2⟩
              case round =>
                obtain ⟨j, rfl, hj, hK, hMw⟩ := hrel
                by_cases hlt : j < m
                · have hlt' : (j : Int) < m := Int.ofNat_lt.2 hlt
                  have hj0 : (0 : Int) ≤ j := Int.natCast_nonneg j
                  have HHN' := HMN.out.1
                  have hj8 : j < 8 := Nat.lt_of_lt_of_le hlt (Nat.le_succ_of_le HN.out.2)
                  obtain ⟨rj, hrr⟩ : ∃ r, rs[j]? = some r := ⟨_, List.getElem?_eq_getElem (by rw [HHN']; exact hlt)⟩
                  have k1 := hK.c1 j rj hrr
                  have u0 := hK.u.1
                  have hte := hK.told j rj hrr hlt
                  have hget := fun w' (hw : toldRoll w' rj j k inc st) => get_has rj k HK.out.1.1 j _ _ w' hw (pow_both j k hj8 HK.out.1.1)
                  have hfk : rollPut (rollNew j) k ((k : Int), inc, st) k = ((k : Int), inc, st) := by simp [rollPut]
                  rw [hfk] at hget
                  unfold updV at hget
                  simp only at hget
                  have HGET := Lib.hid hget
                  clear hget
                  have HRJ := Lib.hid hte
                  have HKK := Lib.hid (And.intro hK hMw)
                  clear hK hMw hte hrr hfk
                  go_wp2_with fail
                  have hne := World.new_ne wr ⟨g1, j, none⟩ k1
                  have hne2 := World.new_ne wr ⟨ub, 0, none⟩ u0
                  have zr := heap_new_drew wr (.cells #[.int .i64 0, .int .u64 0, .int .i64 0] 24)
                  have z0 := cell_in zr (show (#[Value.int .i64 0, .int .u64 0, .int .i64 0] : Array Value)[0]? = some (.int .i64 0) from rfl)
                  have z1 := cell_in zr (show (#[Value.int .i64 0, .int .u64 0, .int .i64 0] : Array Value)[1]? = some (.int .u64 0) from rfl)
                  have z2 := cell_in zr (show (#[Value.int .i64 0, .int .u64 0, .int .i64 0] : Array Value)[2]? = some (.int .i64 0) from rfl)
                  have HZ := Lib.hid (And.intro zr (And.intro z0 (And.intro z1 z2)))
                  clear zr z0 z1 z2
                  go_region_held3 (fun w' => w'.cell? ⟨g1, j, none⟩ = some (.pointer (some ⟨rj, 0, none⟩)) ∧ w'.cell? ⟨ub, 0, none⟩ = some (.int .i64 k)) (first | exact ⟨k1, u0⟩ | exact ⟨HMb.out.at k1 (by simp), HMb.out.at u0 (by simp)⟩ | exact ⟨(HMb.out.alloc _).at k1 (by simp), (HMb.out.alloc _).at u0 (by simp)⟩ | exact ⟨(((HMb.out.setCell (.inr (Nat.le_refl _)) _).setCell (.inr (Nat.le_refl _)) _).setCell (.inr (Nat.le_refl _)) _).at k1 (by simp), (((HMb.out.setCell (.inr (Nat.le_refl _)) _).setCell (.inr (Nat.le_refl _)) _).setCell (.inr (Nat.le_refl _)) _).at u0 (by simp)⟩ | go_keep) (first | (go_at_call 13; refine (HGET.out wr.drew (HRJ.out.mod (Mod.refl [] _).drew (by simp))).mono ?_; rintro _ wb ⟨rfl, hMb⟩; have HMb := Lib.hid ((Mod.refl [] wr).drew.trans hMb); clear hMb) | (go_at_call 13; refine (HGET.out (wr.alloc (.cells #[.int .i64 0, .int .u64 0, .int .i64 0] 24)).drew (HRJ.out.mod ((Mod.refl [] _).alloc _).drew (by simp))).mono ?_; rintro _ wb ⟨rfl, hMb⟩; have HMb := Lib.hid (((Mod.refl [] wr).alloc (.cells #[.int .i64 0, .int .u64 0, .int .i64 0] 24)).drew.trans hMb); have z0 := hMb.at HZ.out.2.1 (by simp); have z1 := hMb.at HZ.out.2.2.1 (by simp); have z2 := hMb.at HZ.out.2.2.2 (by simp); have f0 := free_in (j := 0) (row_mod hMb HZ.out.1 (by simp)); have f1 := free_in (j := 1) (row_mod hMb HZ.out.1 (by simp)); have f2 := free_in (j := 2) (row_mod hMb HZ.out.1 (by simp)); have HZB := Lib.hid (And.intro z0 (And.intro z1 z2)); clear hMb))
                  · have hmW : Mod [] wr (wb.alloc (.cells #[.int .i64 k, .int .u64 inc, .int .i64 st] 24)) := HMb.out.alloc _
                    have hrw := heap_new wb (.cells #[.int .i64 k, .int .u64 inc, .int .i64 st] 24)
                    have v0 := cell_in hrw (show (#[Value.int .i64 k, .int .u64 inc, .int .i64 st] : Array Value)[0]? = some (.int .i64 k) from rfl)
                    have v1 := cell_in hrw (show (#[Value.int .i64 k, .int .u64 inc, .int .i64 st] : Array Value)[1]? = some (.int .u64 inc) from rfl)
                    have v2 := cell_in hrw (show (#[Value.int .i64 k, .int .u64 inc, .int .i64 st] : Array Value)[2]? = some (.int .i64 st) from rfl)
                    clear hrw k1 u0
                    generalize wb.alloc (.cells #[.int .i64 k, .int .u64 inc, .int .i64 st] 24) = W at hmW v0 v1 v2 ⊢
                    have hKW := HKK.out.1.mod HF.out.1 hmW (by simp)
                    have HKW := Lib.hid (And.intro hKW (HKK.out.2.trans hmW))
                    have u0 := hKW.u.1
                    have u1 := hKW.u.2.1
                    have u2 := hKW.u.2.2
                    clear hKW hmW
                    go_wp2_with fail
                    exact ⟨⟨j + 1, next_num j, Nat.succ_le_of_lt hlt, HKW.out.1, HKW.out.2⟩, round_less j m hlt⟩
                  · have s0 := HMb.out.size
                    have hmW : Mod [] wr (((wb.setCell ⟨wr.heap.size, 0, none⟩ (.int .i64 k)).setCell ⟨wr.heap.size, 1, none⟩ (.int .u64 inc)).setCell ⟨wr.heap.size, 2, none⟩ (.int .i64 st)) := ((HMb.out.setCell (.inr (Nat.le_refl _)) _).setCell (.inr (Nat.le_refl _)) _).setCell (.inr (Nat.le_refl _)) _
                    have v0 : (((wb.setCell ⟨wr.heap.size, 0, none⟩ (.int .i64 k)).setCell ⟨wr.heap.size, 1, none⟩ (.int .u64 inc)).setCell ⟨wr.heap.size, 2, none⟩ (.int .i64 st)).cell? ⟨wr.heap.size, 0, none⟩ = some (.int .i64 k) := (cell_set_off _ _ _ _ (by simp)).trans ((cell_set_off _ _ _ _ (by simp)).trans (cell_set_same HZB.out.1))
                    have v1 : (((wb.setCell ⟨wr.heap.size, 0, none⟩ (.int .i64 k)).setCell ⟨wr.heap.size, 1, none⟩ (.int .u64 inc)).setCell ⟨wr.heap.size, 2, none⟩ (.int .i64 st)).cell? ⟨wr.heap.size, 1, none⟩ = some (.int .u64 inc) := (cell_set_off _ _ _ _ (by simp)).trans (cell_set_same ((cell_set_off _ _ _ _ (by simp)).trans HZB.out.2.1))
                    have v2 : (((wb.setCell ⟨wr.heap.size, 0, none⟩ (.int .i64 k)).setCell ⟨wr.heap.size, 1, none⟩ (.int .u64 inc)).setCell ⟨wr.heap.size, 2, none⟩ (.int .i64 st)).cell? ⟨wr.heap.size, 2, none⟩ = some (.int .i64 st) := cell_set_same ((cell_set_off _ _ _ _ (by simp)).trans ((cell_set_off _ _ _ _ (by simp)).trans HZB.out.2.2))
                    clear k1 u0
                    generalize ((wb.setCell ⟨wr.heap.size, 0, none⟩ (.int .i64 k)).setCell ⟨wr.heap.size, 1, none⟩ (.int .u64 inc)).setCell ⟨wr.heap.size, 2, none⟩ (.int .i64 st) = W at hmW v0 v1 v2 ⊢
                    have hKW := HKK.out.1.mod HF.out.1 hmW (by simp)
                    have HKW := Lib.hid (And.intro hKW (HKK.out.2.trans hmW))
                    have u0 := hKW.u.1
                    have u1 := hKW.u.2.1
                    have u2 := hKW.u.2.2
                    clear hKW hmW
                    go_wp2_with fail
                    exact ⟨⟨j + 1, next_num j, Nat.succ_le_of_lt hlt, HKW.out.1, HKW.out.2⟩, round_less j m hlt⟩
                · have hlt' : ¬ (j : Int) < m := fun h => hlt (Int.ofNat_lt.1 h)
                  have HMW := Lib.hid hMw
                  clear hK hMw hlt
                  go_wp2_with fail
                  go_ret
                  exact ⟨rfl, HMW.out⟩

end Go.Proofs.YtpbamamplmbgjaaGreatDoor
