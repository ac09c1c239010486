/-
  TopKnown: a queue's map of calm items; Items.
  TopKnown: the walk of a queue's Items.
  TopKnown: the walk of Take's tell.
-/
import Derived.Test.YtaaaiggbnkeblaaGreatDoorMKnA
import Derived.Maps.RangeWalk
import Derived.Maps.OwnSet
import Derived.Deep.Cut
namespace Go.Proofs.YtaaaiggbnkeblaaGreatDoor
set_option linter.unusedSimpArgs false
set_option linter.unusedVariables false
open Go.RowKit

/-- A calm item: of a node below N, at 0, told so often. -/
def CalmV (N : Nat) (v : Value) : Prop := ∃ k t : Nat, k < N ∧ t ≤ 100 ∧ v = .agg #[.int .i64 k, .int .u64 0, .int .i64 0, .int .i64 t]
noncomputable def calmElem (N : Nat) (v : Value) : Option (DataW Unit × List MemPlace) := by
  classical
  exact if CalmV N v then some (.lit (.bool true), []) else none
theorem calmElem_mk {N : Nat} {v : Value} (h : CalmV N v) : calmElem N v = some (.lit (.bool true), []) := by
  unfold calmElem
  simp [h]
theorem calmElem_inv {N : Nat} {v : Value} {y : DataW Unit × List MemPlace} (h : calmElem N v = some y) : CalmV N v ∧ y = (.lit (.bool true), []) := by
  unfold calmElem at h
  by_cases hc : CalmV N v
  · simp [hc] at h
    exact ⟨hc, h.symm⟩
  · simp [hc] at h

theorem nodup_lt (N : Nat) : ∀ l : List Nat, l.Nodup → (∀ x ∈ l, x < N) → l.length ≤ N := by
  induction N with
  | zero =>
    intro l _ h
    cases l with
    | nil => exact Nat.le_refl _
    | cons x l => exact absurd (h x (by simp)) (by omega)
  | succ N ih =>
    intro l hn h
    by_cases hm : N ∈ l
    · have h1 := ih (l.erase N) (hn.erase N) (fun x hx => by
        have h2 := (List.Nodup.mem_erase_iff hn).1 hx
        have h3 := h x h2.2
        have h4 := h2.1
        omega)
      rw [List.length_erase_of_mem hm] at h1
      omega
    · have h1 := ih l hn (fun x hx => by
        have h2 := h x hx
        have h3 : x ≠ N := fun e => hm (e ▸ hx)
        omega)
      omega

/-- The keys are nodes below N. -/
def KeysLt (N : Nat) (D : DataW Unit) : Prop := ∀ es, D = .map es → ∀ p ∈ es, ∃ k : Nat, k < N ∧ p.1 = .int .i64 k
theorem keys_size {w : World} {P : Program} {k : TypeId} {R : Value → Option (DataW Unit × List MemPlace)} {b n N : Nat} {D : DataW Unit} (h : w.ownsMap P k R b n D) (K : Go.Maps.Keyed P k) (hk : KeysLt N D) : Go.Maps.size D ≤ N := by
  obtain ⟨es, rfl, hp, _⟩ := h.entries K
  have hk' := hk es rfl
  show es.length ≤ N
  have hl : (es.map fun p => match p.1 with | .int _ x => x.toNat | _ => 0).length ≤ N := by
    refine nodup_lt N _ ?_ ?_
    · rw [List.Nodup, List.pairwise_map]
      refine hp.imp_of_mem ?_
      intro a b ha hb hne
      obtain ⟨ka, _, ea⟩ := hk' a ha
      obtain ⟨kb, _, eb⟩ := hk' b hb
      rw [ea, eb] at hne ⊢
      intro e
      apply hne
      have e2 : ((ka : Int)).toNat = ((kb : Int)).toNat := e
      have : ka = kb := by omega
      rw [this]
    · intro x hx
      obtain ⟨p, hp', rfl⟩ := List.mem_map.1 hx
      obtain ⟨k', hk1, e⟩ := hk' p hp'
      rw [e]
      show ((k' : Int)).toNat < N
      omega
  rwa [List.length_map] at hl
theorem ownsMap_shrink {w : World} {P : Program} {k : TypeId} {R : Value → Option (DataW Unit × List MemPlace)} {b n n' : Nat} {D : DataW Unit} (h : w.ownsMap P k R b n D) (hs : Go.Maps.size D ≤ n') : w.ownsMap P k R b n' D := by
  obtain ⟨es, clock, hb, F, _, hD⟩ := h
  refine ⟨es, clock, hb, F, ?_, hD⟩
  rw [hD] at hs
  simpa [Go.Maps.size, length_sorted] using hs

/-- A queue's map: calm items of nodes below N. -/
def QMap (w : World) (b N : Nat) : Prop := ∃ D, w.ownsMap Tryz.prog 3 (calmElem N) b N D ∧ KeysLt N D
theorem keyedInt : Go.Maps.Keyed Tryz.prog 3 := Go.Maps.int_keyed Tryz.underlying3
theorem QMap.kept {w w' : World} {b N : Nat} {S : List Nat} (h : QMap w b N) (hM : Mod S w w') (hs : b ∉ S) : QMap w' b N := by
  obtain ⟨D, ⟨es, clock, hb, h1⟩, hk⟩ := h
  exact ⟨D, ⟨es, clock, row_mod hM hb hs, h1⟩, hk⟩
theorem mem_insert (x : Lit × DataW Unit) : ∀ (l : List (Lit × DataW Unit)) (p : Lit × DataW Unit), p ∈ DataW.insert x l → p = x ∨ p ∈ l
  | [], p, h => by
    simp [DataW.insert] at h
    exact .inl h
  | y :: r, p, h => by
    unfold DataW.insert at h
    split at h
    · simp at h
      rcases h with h | h | h
      · exact .inl h
      · exact .inr (by simp [h])
      · exact .inr (by simp [h])
    · simp at h
      rcases h with h | h
      · exact .inr (by simp [h])
      · rcases mem_insert x r p h with h | h
        · exact .inl h
        · exact .inr (by simp [h])
theorem keysLt_put {N k : Nat} {D : DataW Unit} {d : DataW Unit} (h : KeysLt N D) (hk : k < N) (hm : ∃ es, D = .map es) : KeysLt N (D.put (.int .i64 (k : Int)) d) := by
  obtain ⟨es, rfl⟩ := hm
  intro es' he p hp
  unfold DataW.put at he
  cases he
  rcases mem_insert _ _ p hp with rfl | hp
  · exact ⟨k, hk, rfl⟩
  · exact h es rfl p (List.mem_filter.1 hp).1
theorem keysLt_del {N : Nat} {kl : Lit} {D : DataW Unit} (h : KeysLt N D) (hm : ∃ es, D = .map es) : KeysLt N (D.del kl) := by
  obtain ⟨es, rfl⟩ := hm
  intro es' he p hp
  unfold DataW.del at he
  cases he
  exact h es rfl p (List.mem_filter.1 hp).1
theorem QMap.made (w : World) (N : Nat) : QMap (w.alloc (.map #[] 0)) w.heap.size N :=
  ⟨.map [], (World.ownsMap_made w Tryz.prog 3 (calmElem N)).mono (Nat.zero_le _), fun es he p hp => by cases he; cases hp⟩
theorem QMap.put {w : World} {b N k : Nat} {v : Value} (h : QMap w b N) (hN : N ≤ 6) (hk : k < N) (hv : CalmV N v) :
    ∃ w', (Instr.mapUpdate 70 (.map (some b)) (.int .i64 k) v).run Tryz.prog w = .ok () w' ∧ QMap w' b N ∧ Mod [b] w w' := by
  obtain ⟨D, ho, hkl⟩ := h
  have hwf : (Lit.int .i64 (k : Int)).wf = true := by
    simp only [Lit.wf, Bool.and_eq_true, decide_eq_true_eq]
    exact ⟨by show (-9223372036854775808 : Int) ≤ k; omega, by show (k : Int) ≤ 9223372036854775807; omega⟩
  obtain ⟨w', hrun, ho', hm⟩ := ho.store keyedInt Tryz.underlying70 (by unfold maxLen; omega) (Go.Maps.keyOf_int_mk Tryz.underlying3 hwf) (calmElem_mk hv)
  have hkl' := keysLt_put (d := .lit (.bool true)) hkl hk ⟨_, ho.choose_spec.choose_spec.2.2.2⟩
  exact ⟨w', hrun, ⟨_, ownsMap_shrink ho' (keys_size ho' keyedInt hkl'), hkl'⟩, (Mod.refl [b] w).grown hm.grown (.inl (by simp))⟩
theorem QMap.drop {w : World} {b N k : Nat} (h : QMap w b N) (hN : N ≤ 6) (hk : k < N) (ty : TypeId) :
    ∃ w', (Builtin.delete_ #[70, 3] ty #[.map (some b), .int .i64 k]).run Tryz.prog w = .ok (.tuple #[]) w' ∧ QMap w' b N ∧ Mod [b] w w' := by
  obtain ⟨D, ho, hkl⟩ := h
  have hwf : (Lit.int .i64 (k : Int)).wf = true := by
    simp only [Lit.wf, Bool.and_eq_true, decide_eq_true_eq]
    exact ⟨by show (-9223372036854775808 : Int) ≤ k; omega, by show (k : Int) ≤ 9223372036854775807; omega⟩
  obtain ⟨w', hrun, ho', hm⟩ := ho.drop keyedInt Tryz.underlying70 (Go.Maps.keyOf_int_mk Tryz.underlying3 hwf) ty
  exact ⟨w', hrun, ⟨_, ho', keysLt_del hkl ⟨_, ho.choose_spec.choose_spec.2.2.2⟩⟩, (Mod.refl [b] w).grown hm.grown (.inl (by simp))⟩

def zItems (m : Nat) : Array Value := ((List.replicate m [Value.int .i64 0, .int .u64 0, .int .i64 0, .int .i64 0]).flatten).toArray
theorem zItems_size (m : Nat) : (zItems m).size = m * 4 := by simp [zItems]
theorem make_items (m : Nat) (hm : m ≤ 6) (w : World) : (Instr.makeSlice 195 (.int .i64 0) (.int .i64 m)).run Tryz.prog w = .ok (.slice (some ⟨w.heap.size, 0, none⟩) 0 m) (w.alloc (.cells (zItems m) 192)) := by
  have h7 : m = 0 ∨ m = 1 ∨ m = 2 ∨ m = 3 ∨ m = 4 ∨ m = 5 ∨ m = 6 := by omega
  rcases h7 with rfl | rfl | rfl | rfl | rfl | rfl | rfl
  all_goals
    show Sem.run _ _ _ = _
    kernel_rfl

/-- Calm items in a row of one's own. -/
def iflat (L : List (Nat × Nat)) : List Value := L.flatMap fun x => [.int .i64 x.1, .int .u64 0, .int .i64 0, .int .i64 x.2]
def IRow (w : World) (B : Nat) (v : Value) (N : Nat) (L : List (Nat × Nat)) : Prop := w.ownsRow B 192 4 v L.length (iflat L) ∧ (∀ x ∈ L, x.1 < N ∧ x.2 ≤ 100)
theorem irow_new (w : World) (m N : Nat) (hm : m ≤ 6) : IRow (w.alloc (.cells (zItems m) 192)) w.heap.size (.slice (some ⟨w.heap.size, 0, none⟩) 0 m) N [] :=
  ⟨⟨rfl, .inr ⟨w.heap.size, m, zItems m, rfl, Nat.le_refl _, heap_new _ _, Nat.zero_le _, by unfold maxLen; omega, zItems_size m, by simp [iflat]⟩⟩, by simp⟩
theorem irow_push (w : World) (B : Nat) (v : Value) (N : Nat) (L : List (Nat × Nat)) (g k t : Nat) (h : IRow w B v N L) (hl : L.length ≤ 1000) (hk : k < N) (ht : t ≤ 100) (hg : w.heap[g]? = some (.cells #[.int .i64 k, .int .u64 0, .int .i64 0, .int .i64 t] 192 (0, 0))) (hB : B ≤ w.heap.size) :
    ∃ v' w', (Builtin.append_ #[195, 195] 195 #[v, .slice (some ⟨g, 0, none⟩) 1 1]).run Tryz.prog w = .ok v' w' ∧ IRow w' B v' N (L ++ [(k, t)]) ∧ w.grownBy w' v.ownBlock := by
  have hinf := Tryz.inf_item
  cases hi : Tryz.prog.info? 192 with
  | none => rw [hi] at hinf; cases hinf
  | some i =>
    rw [hi] at hinf
    simp at hinf
    obtain ⟨hz, hs, hb⟩ := hinf
    have hby : (L.length + 1) * i.bytes ≤ 140737488355328 := by
      rw [hb]
      omega
    have hnews : ∀ j x, ([.int .i64 (k : Int), .int .u64 0, .int .i64 0, .int .i64 (t : Int)] : List Value)[j]? = some x → w.cell? ((⟨g, 0, none⟩ : Addr).add j) = some x := World.news_of_block hg
    obtain ⟨v', w', hr, h2, h3, _, _⟩ := run_append_own_at (P := Tryz.prog) w B 195 195 192 i _ 4 i.bytes Tryz.underlying195 hi hz hs rfl rfl (by decide) v L.length _ h.1 ⟨g, 0, none⟩ 1 1 [.int .i64 (k : Int), .int .u64 0, .int .i64 0, .int .i64 (t : Int)] rfl hnews (by simp [Value.oneCell']) (by unfold maxLen; omega) hby hB
    refine ⟨v', w', hr, ⟨?_, ?_⟩, h3⟩
    · rw [List.length_append]
      have e : iflat (L ++ [(k, t)]) = iflat L ++ [.int .i64 (k : Int), .int .u64 0, .int .i64 0, .int .i64 (t : Int)] := by simp [iflat]
      rw [e]
      exact h2
    · intro x hx
      rw [List.mem_append] at hx
      rcases hx with hx | hx
      · exact h.2 x hx
      · simp at hx
        rw [hx]
        exact ⟨hk, ht⟩

end Go.Proofs.YtaaaiggbnkeblaaGreatDoor

namespace Go.Proofs.YtaaaiggbnkeblaaGreatDoor
set_option linter.unusedSimpArgs false
set_option linter.unusedVariables false
open Go.RowKit

/-- Items under way: so many are written, so many are still to come. -/
structure ItRel (w W1 : World) (q o b r N m : Nat) (D : DataW Unit) (left : Lit → Bool) (cnt : Nat) (L : List (Nat × Nat)) (v : Value) (wr : World) : Prop where
  rg : wr.ranges Tryz.prog 3 (calmElem N) b r N D left cnt
  row : IRow wr w.heap.size v N L
  some' : v ≠ .slice none 0 0
  len : L.length + cnt ≤ m
  mod : Mod [] w wr

def ItemsPost (w : World) (N : Nat) (e : Ending) (w' : World) : Prop := ∃ g cap m, e = .returned (.slice (some ⟨g, 0, none⟩) m cap) ∧ m ≤ 6 ∧ m ≤ cap ∧ cap ≤ maxLen ∧ ItemsAt w' g m N ∧ w.heap.size ≤ g ∧ Mod [] w w'

theorem iflat_at (L : List (Nat × Nat)) (i k t : Nat) (h : L[i]? = some (k, t)) : (iflat L)[i * 4]? = some (.int .i64 k) ∧ (iflat L)[i * 4 + 1]? = some (.int .u64 0) ∧ (iflat L)[i * 4 + 2]? = some (.int .i64 0) ∧ (iflat L)[i * 4 + 3]? = some (.int .i64 t) := by
  induction L generalizing i with
  | nil => cases h
  | cons x L ih =>
    have e : iflat (x :: L) = [.int .i64 (x.1 : Int), .int .u64 0, .int .i64 0, .int .i64 (x.2 : Int)] ++ iflat L := by simp [iflat]
    cases i with
    | zero =>
      cases h
      rw [e]
      exact ⟨rfl, rfl, rfl, rfl⟩
    | succ i =>
      have h' : L[i]? = some (k, t) := h
      have := ih i h'
      rw [e, show (i + 1) * 4 = 4 + i * 4 by omega]
      refine ⟨?_, ?_, ?_, ?_⟩
      · rw [List.getElem?_append_right (by simp), show 4 + i * 4 - ([.int .i64 (x.1 : Int), .int .u64 0, .int .i64 0, .int .i64 (x.2 : Int)] : List Value).length = i * 4 by simp]; exact this.1
      · rw [List.getElem?_append_right (by simp; omega), show 4 + i * 4 + 1 - ([.int .i64 (x.1 : Int), .int .u64 0, .int .i64 0, .int .i64 (x.2 : Int)] : List Value).length = i * 4 + 1 by simp; omega]; exact this.2.1
      · rw [List.getElem?_append_right (by simp; omega), show 4 + i * 4 + 2 - ([.int .i64 (x.1 : Int), .int .u64 0, .int .i64 0, .int .i64 (x.2 : Int)] : List Value).length = i * 4 + 2 by simp; omega]; exact this.2.2.1
      · rw [List.getElem?_append_right (by simp; omega), show 4 + i * 4 + 3 - ([.int .i64 (x.1 : Int), .int .u64 0, .int .i64 0, .int .i64 (x.2 : Int)] : List Value).length = i * 4 + 3 by simp; omega]; exact this.2.2.2
theorem IRow.items {w : World} {B N : Nat} {v : Value} {L : List (Nat × Nat)} (h : IRow w B v N L) (hv : v ≠ .slice none 0 0) : ∃ g cap, v = .slice (some ⟨g, 0, none⟩) L.length cap ∧ L.length ≤ cap ∧ cap ≤ maxLen ∧ ItemsAt w g L.length N ∧ B ≤ g := by
  have h' := h.1
  obtain ⟨⟨hl, h1⟩, h2⟩ := h
  rcases h1 with ⟨rfl, _⟩ | ⟨g, cap, cur, rfl, hB, hg, h3, h4, h5, h6⟩
  · exact absurd rfl hv
  · refine ⟨g, cap, rfl, h3, h4, ⟨fun i hi => ?_, fun j => free_in hg, (Array.getElem?_eq_some_iff.1 hg).1⟩, hB⟩
    obtain ⟨⟨k, t⟩, hx⟩ : ∃ x, L[i]? = some x := ⟨_, List.getElem?_eq_getElem hi⟩
    have hc := ownsRow_cells h'
    have hkt := h2 _ (List.mem_of_getElem? hx)
    obtain ⟨a, b, c, d⟩ := iflat_at L i k t hx
    exact ⟨k, t, hkt.1, hkt.2, hc _ _ a, hc _ _ b, hc _ _ c, hc _ _ d⟩

/-- The row's block is neither the iterator nor the map. -/
theorem irow_other {w : World} {B N b r n cnt : Nat} {v : Value} {L : List (Nat × Nat)} {D : DataW Unit} {left : Lit → Bool} (h : IRow w B v N L) (hrg : w.ranges Tryz.prog 3 (calmElem N) b r n D left cnt) : ∀ g, v.ownBlock = some g → g ≠ r ∧ g ≠ b := by
  intro g hg
  obtain ⟨⟨hl, h1⟩, _⟩ := h
  rcases h1 with ⟨rfl, _⟩ | ⟨g', cap, cur, rfl, hB, hg', _⟩
  · cases hg
  · have e : g' = g := by simpa [Value.ownBlock] using hg
    subst e
    obtain ⟨es, clock, since, seen, c0, hb, _, _, _, hr, _⟩ := hrg
    constructor
    · intro e
      subst e
      rw [hg'] at hr
      cases hr
    · intro e
      subst e
      rw [hg'] at hb
      cases hb

set_option maxRecDepth 100000 in
set_option maxHeartbeats 8000000 in
theorem items_is (q o b N : Nat) (hN : N ≤ 6) (w : World) (hq : w.cell? ⟨q, o, none⟩ = some (.map (some b))) (h : QMap w b N) :
    Calls Tryz.prog 96 #[.pointer (some ⟨q, o, none⟩)] w (ItemsPost w N) := by
  obtain ⟨D, ho, hkl⟩ := h
  obtain ⟨m, hm⟩ : ∃ m, Go.Maps.size D = m := ⟨_, rfl⟩
  have hmN : m ≤ 6 := by rw [← hm]; exact Nat.le_trans (keys_size ho keyedInt hkl) hN
  have hln := fun ty => ho.len (t := 70) (e := 192) Tryz.underlying70 ty
  rw [hm] at hln
  have hmk := make_items m hmN
  have hm1 := (Mod.refl [] w).alloc (.cells (zItems m) 192)
  have hq1 := hm1.at hq (by simp)
  have ho1 := ho.alloc (.cells (zItems m) 192)
  have HROW := Lib.hid (irow_new w m N hmN)
  have HM1 := Lib.hid hm1
  have HMM := Lib.hid (And.intro hm (And.intro hmN hkl))
  clear hm hm1 hkl ho
  go_enter Tryz.func96, Tryz.ntmps96
  go_wp2_with (first
    | (at_range; refine wpList_range_own _ rfl _ 70 rfl 3 192 keyedInt Tryz.underlying70 _ b _ _ rfl ho1 ?_; intro w0 hrg0 hg0 hs0))
  all_goals try go_frame
  have e1 : (w.alloc (.cells (zItems m) 192)).heap.size = w.heap.size + 1 := by simp
  rw [e1] at hrg0 hs0 ⊢
  have hMr0 := (Mod.refl [] (w.alloc (.cells (zItems m) 192))).grown_none hg0
  have HREL := Lib.hid (show ItRel w w q o b (w.heap.size + 1) N m D (Go.Maps.has D) m [] (.slice (some ⟨w.heap.size, 0, none⟩) 0 m) w0 from
    ⟨by rw [← HMM.out.1]; exact hrg0, ⟨ownsRow_mod HROW.out.1 hMr0 (by simp), HROW.out.2⟩, by simp, by simp, HM1.out.trans hMr0⟩)
  clear hrg0 hs0 hg0 hMr0 hln hmk hq1 ho1 hq e1
  go_loopw [3] (fun v wr => ∃ left cnt L, ItRel w w q o b (w.heap.size + 1) N m D left cnt L v wr) (fun _ wr => wr.rangeLeft b (w.heap.size + 1))
  case atStart => exact ⟨_, _, _, HREL.out⟩
  case round =>
    obtain ⟨left, cnt, L, hI⟩ := hrel
    have HI := Lib.hid hI
    have hrg := hI.rg
    clear hI
    go_wp2_with (first
      | (at_next; refine wpList_next_ranges _ rfl _ rfl 3 keyedInt (calmElem N) (fun x : Int => Value.int .i64 x) (fun x : Nat × Nat => Value.agg #[.int .i64 x.1, .int .u64 0, .int .i64 0, .int .i64 x.2]) (fun key kl hkey => by obtain ⟨x, rfl, _⟩ := Go.Maps.keyOf_int_inv Tryz.underlying3 hkey; exact ⟨x, rfl⟩) (fun v y hv => by obtain ⟨⟨k, t, _, _, rfl⟩, _⟩ := calmElem_inv hv; exact ⟨(k, t), rfl⟩) b (w.heap.size + 1) N D left cnt rfl hrg ?_ ?_))
    · intro hc0 hl0
      obtain ⟨g, cap, rfl, hle, hcm, hit, hB⟩ := HI.out.row.items HI.out.some'
      have hl6 : L.length ≤ 6 := by have := HI.out.len; omega
      have HS := Lib.hid (sort_items N g L.length cap hl6 wr hit)
      have HF := Lib.hid (And.intro hle (And.intro hcm (And.intro hB (And.intro hl6 HI.out.mod))))
      clear hle hcm hit hB hl6 hrg hc0 hl0
      go_wp2_with fail
      refine HS.out.mono ?_
      rintro _ w2 ⟨rfl, hI2, hM2⟩
      have HE := Lib.hid (And.intro hI2 (HF.out.2.2.2.2.step hM2 (fun x hx => .inr (by simp at hx; rw [hx]; exact HF.out.2.2.1))))
      clear hI2 hM2
      go_wp2_with fail
      go_ret
      exact ⟨g, cap, L.length, rfl, HF.out.2.2.2.1, HF.out.1, HF.out.2.1, HE.out.1, HF.out.2.2.1, HE.out.2⟩
    · intro x k t kl yd yp w1 cnt1 hkey hlk hR hat hrg1 hlt hg1 hs1 hen
      obtain ⟨⟨k', t', hk, ht, e⟩, _⟩ := calmElem_inv hR
      have e2 : k = k' ∧ t = t' := by simp at e; omega
      obtain ⟨rfl, rfl⟩ := e2
      have hrow := HI.out.row
      have hge := ownsRow_ge hrow.1
      have hnr : ∀ g, u3.ownBlock = some g → g ≠ w.heap.size + 1 ∧ g ≠ b := irow_other hrow hrg
      have hM1 : Mod [w.heap.size + 1] wr w1 := (Mod.refl _ wr).grown hg1 (.inl (by simp))
      have hrow1 : IRow w1 w.heap.size u3 N L := ⟨ownsRow_mod hrow.1 hM1 (fun g hg => by have := (hnr g hg).1; simpa using this), hrow.2⟩
      have hma := (Mod.refl [] w1).alloc (.cells #[.int .i64 k, .int .u64 0, .int .i64 0, .int .i64 t] 192)
      have hmb := hma.alloc (.cells #[.int .i64 k, .int .u64 0, .int .i64 0, .int .i64 t] 192)
      have hrow2 : IRow ((w1.alloc (.cells #[.int .i64 k, .int .u64 0, .int .i64 0, .int .i64 t] 192)).alloc (.cells #[.int .i64 k, .int .u64 0, .int .i64 0, .int .i64 t] 192)) w.heap.size u3 N L := ⟨ownsRow_mod hrow1.1 hmb (by simp), hrow1.2⟩
      have hit2 : ((w1.alloc (.cells #[.int .i64 k, .int .u64 0, .int .i64 0, .int .i64 t] 192)).alloc (.cells #[.int .i64 k, .int .u64 0, .int .i64 0, .int .i64 t] 192)).heap[w1.heap.size + 1]? = some (.cells #[.int .i64 k, .int .u64 0, .int .i64 0, .int .i64 t] 192 (0, 0)) := by
        have := heap_new (w1.alloc (.cells #[.int .i64 k, .int .u64 0, .int .i64 0, .int .i64 t] 192)) (.cells #[.int .i64 k, .int .u64 0, .int .i64 0, .int .i64 t] 192)
        simpa using this
      have hsw : w.heap.size ≤ w1.heap.size := Nat.le_trans HI.out.mod.size hM1.size
      obtain ⟨v', w', hrun, hrow', hgr⟩ := irow_push ((w1.alloc (.cells #[.int .i64 k, .int .u64 0, .int .i64 0, .int .i64 t] 192)).alloc (.cells #[.int .i64 k, .int .u64 0, .int .i64 0, .int .i64 t] 192)) w.heap.size u3 N L (w1.heap.size + 1) k t hrow2 (by have := HI.out.len; omega) hk ht hit2 (by simp; omega)
      have hm' := Mod.grownOwn (Mod.refl [] ((w1.alloc (.cells #[.int .i64 k, .int .u64 0, .int .i64 0, .int .i64 t] 192)).alloc (.cells #[.int .i64 k, .int .u64 0, .int .i64 0, .int .i64 t] 192))) hgr
      have hrg' := ((hrg1.alloc (.cells #[.int .i64 k, .int .u64 0, .int .i64 0, .int .i64 t] 192)).alloc (.cells #[.int .i64 k, .int .u64 0, .int .i64 0, .int .i64 t] 192)).kept hgr (fun hb => (hnr _ hb.symm).2 rfl) (fun hb => (hnr _ hb.symm).1 rfl)
      have hMw' : Mod [] w w' := ((HI.out.mod.step hM1 (fun x hx => .inr (by simp at hx; omega))).trans hmb).step hm' (fun x hx => by rw [Option.mem_toList] at hx; exact .inr (hge x hx).1)
      have hsm : v' ≠ .slice none 0 0 := by
        obtain ⟨g', c', he, _, _⟩ := hrow'.1.form (by simp)
        rw [he]
        simp
      have HRUN := Lib.hid hrun
      have HNEW := Lib.hid (And.intro hrg' (show ItRel w w q o b (w.heap.size + 1) N m D _ cnt1 (L ++ [(k, t)]) v' w' from ⟨hrg', hrow', hsm, by rw [List.length_append]; have := HI.out.len; simp; omega, hMw'⟩))
      have HOLD := Lib.hid hrg
      have HLT := Lib.hid hlt
      have dk := cell_in (heap_new w1 (.cells #[.int .i64 k, .int .u64 0, .int .i64 0, .int .i64 t] 192)) (show (#[Value.int .i64 k, .int .u64 0, .int .i64 0, .int .i64 t] : Array Value)[0]? = some (.int .i64 k) from rfl)
      clear hkey hlk hR hat hrg1 hlt hg1 hs1 e hrow hge hnr hM1 hrow1 hma hmb hrow2 hit2 hsw hrun hrow' hgr hm' hrg' hMw' hsm hrg
      go_wp2_with (at_builtin; with_reducible refine wplk_append_run _ rfl (.tmp 21) (.tmp 23) 195 rfl u3 (.slice (some ⟨w1.heap.size + 1, 0, none⟩) 1 1) rfl rfl HRUN.out ?_)
      refine ⟨⟨_, _, _, HNEW.out.2⟩, ?_⟩
      rw [HNEW.out.1.left_eq, HOLD.out.left_eq]
      exact HLT.out

end Go.Proofs.YtaaaiggbnkeblaaGreatDoor

namespace Go.Proofs.YtaaaiggbnkeblaaGreatDoor
set_option linter.unusedSimpArgs false
set_option linter.unusedVariables false
open Go.RowKit

def calmU (k : Nat) : Int × Int × Int := ((k : Int), 0, 0)
/-- What tell finds: the list that it writes, how many nodes, whose map. -/
structure TellAt (w : World) (q o b pl pn pq n N B : Nat) (v : Value) (L : List Nat) : Prop where
  hpl : w.cell? ⟨pl, 0, none⟩ = some v
  fpl : w.frozen? ⟨pl, 0, none⟩ = false
  hpn : w.cell? ⟨pn, 0, none⟩ = some (.int .i64 n)
  hpq : w.cell? ⟨pq, 0, none⟩ = some (.pointer (some ⟨q, o, none⟩))
  hq : w.cell? ⟨q, o, none⟩ = some (.map (some b))
  hmap : QMap w b N
  hrow : Upds w B v (L.map calmU)
  hne : pl ≠ pn ∧ pl ≠ pq ∧ pl ≠ q ∧ pl ≠ b ∧ b ≠ pn ∧ b ≠ pq ∧ b ≠ q
  hlt : pl < B ∧ pn < B ∧ pq < B ∧ q < B ∧ b < B
  hB : B ≤ w.heap.size
  hlen : L.length ≤ 100

/-- One more update is written: where the row lies. -/
theorem upds_lies (w : World) (B : Nat) (v : Value) (L : List (Int × Int × Int)) (g ln : Nat) (u : Int × Int × Int) (h : Upds w B v L) (hl : L.length ≤ 1000) (hg : w.heap[g]? = some (.cells #[.int .i64 u.1, .int .u64 u.2.1, .int .i64 u.2.2] 55 (0, 0))) (hB : B ≤ w.heap.size) (hln : L.length + 1 = ln) :
    ∃ gl cap w', (Builtin.append_ #[37, 37] 37 #[v, .slice (some ⟨g, 0, none⟩) 1 1]).run Tryz.prog w = .ok (.slice (some ⟨gl, 0, none⟩) ln cap) w' ∧ Upds w' B (.slice (some ⟨gl, 0, none⟩) ln cap) (L ++ [u]) ∧ w.grownBy w' v.ownBlock ∧ (v.ownBlock = some gl ∨ gl = w.heap.size) := by
  obtain ⟨i, hi, hz, hs, hb⟩ := infoUpd
  have hby : (L.length + 1) * i.bytes ≤ 140737488355328 := by
    have := Nat.mul_le_mul (show L.length + 1 ≤ 1001 by omega) hb
    omega
  have hnews : ∀ j x, (ucells u)[j]? = some x → w.cell? ((⟨g, 0, none⟩ : Addr).add j) = some x := World.news_of_block hg
  obtain ⟨gl, cap, w', hr, h2, h3, h4, _⟩ := run_append_lies (P := Tryz.prog) w 37 37 B 55 i _ 3 i.bytes Tryz.underlying37 hi hz hs rfl rfl (by decide) v L.length _ h ⟨g, 0, none⟩ 1 1 (ucells u) rfl hnews (by simp [ucells, Value.oneCell']) (by omega) (by unfold maxLen; omega) hby hB w.heap.size rfl
  subst hln
  refine ⟨gl, cap, w', hr, ?_, h3, h4⟩
  unfold Upds
  rw [uflat_snoc, List.length_append]
  exact h2

set_option maxRecDepth 100000 in
set_option maxHeartbeats 8000000 in
theorem tell_is (q o b pl pn pq n N B k t : Nat) (v : Value) (L : List Nat) (hn : 2 ≤ n ∧ n ≤ 7) (hN : N ≤ 6) (hk : k < N) (ht : t ≤ 100) (w : World) (h : TellAt w q o b pl pn pq n N B v L) (hL : L.length ≤ 99) :
    Calls Tryz.prog 147 #[.agg #[.int .i64 k, .int .u64 0, .int .i64 0, .int .i64 t], .pointer (some ⟨pl, 0, none⟩), .pointer (some ⟨pn, 0, none⟩), .pointer (some ⟨pq, 0, none⟩)] w
      fun e w' => e = .returned (.tuple #[]) ∧ ∃ v', TellAt w' q o b pl pn pq n N B v' (L ++ [k]) ∧ Mod (pl :: b :: v.ownBlock.toList) w w' := by
  obtain ⟨c, hc1, hc10, hcap⟩ := cap_small n hn
  have HCAP := Lib.hid hcap
  have HNE := Lib.hid (And.intro h.hne (And.intro h.hlt h.hB))
  have HK := Lib.hid (And.intro hk (And.intro ht (And.intro hN hL)))
  have hrow := heap_new w (.cells #[.int .i64 k, .int .u64 0, .int .i64 0, .int .i64 t] 192)
  have hm0 := (Mod.refl [] w).alloc (.cells #[.int .i64 k, .int .u64 0, .int .i64 0, .int .i64 t] 192)
  have hU := ownsRow_mod h.hrow hm0 (by simp)
  have hfz := (hm0.frozen (p := ⟨pl, 0, none⟩) (cell_lt' h.hpl) (by simp)).trans h.fpl
  have HC := Lib.hid (And.intro (hm0.at h.hpl (by simp)) (And.intro hfz (And.intro (hm0.at h.hpn (by simp)) (And.intro (hm0.at h.hpq (by simp)) (And.intro (hm0.at h.hq (by simp)) (h.hmap.kept hm0 (by simp)))))))
  have hvw : ∀ x, x ∈ v.ownBlock.toList → x ≥ w.heap.size → False := fun x hx hb => by
    rw [Option.mem_toList] at hx
    have := (ownsRow_ge h.hrow x hx).2
    omega
  have HVW := Lib.hid hvw
  have HROW := Lib.hid hrow
  have HM0 := Lib.hid hm0
  have HU := Lib.hid hU
  clear hcap hrow hm0 hU hfz h hk ht hN hL hvw
  go_enter Tryz.func147, Tryz.ntmps147
  go_upto_region 1 with fail
  obtain ⟨bi, hB⟩ : ∃ bi, w.heap.size = bi := ⟨_, rfl⟩
  rw [hB] at HROW ⊢
  have HBI := Lib.hid hB
  clear hB
  generalize w.alloc (.cells #[.int .i64 k, .int .u64 0, .int .i64 0, .int .i64 t] 192) = W0 at HROW HM0 HC HU ⊢
  have x0 := cell_in HROW.out (show (#[Value.int .i64 k, .int .u64 0, .int .i64 0, .int .i64 t] : Array Value)[0]? = some (.int .i64 k) from rfl)
  have x1 := cell_in HROW.out (show (#[Value.int .i64 k, .int .u64 0, .int .i64 0, .int .i64 t] : Array Value)[1]? = some (.int .u64 0) from rfl)
  have x2 := cell_in HROW.out (show (#[Value.int .i64 k, .int .u64 0, .int .i64 0, .int .i64 t] : Array Value)[2]? = some (.int .i64 0) from rfl)
  have p0 := HC.out.1
  have hma := (Mod.refl [] W0).alloc (.cells #[.int .i64 k, .int .u64 0, .int .i64 0] 55)
  have hBW : B ≤ W0.heap.size := Nat.le_trans HNE.out.2.2 HM0.out.size
  obtain ⟨ln, hln⟩ : ∃ ln, L.length + 1 = ln := ⟨_, rfl⟩
  obtain ⟨gl, capl, w2, hrun, hU2, hgr, hgl0⟩ := upds_lies (W0.alloc (.cells #[.int .i64 k, .int .u64 0, .int .i64 0] 55)) B v (L.map calmU) W0.heap.size ln (calmU k) (ownsRow_mod HU.out hma (by simp)) (by rw [List.length_map]; have := HK.out.2.2.2; omega) (heap_new _ _) (by simp; omega) (by rw [List.length_map]; exact hln)
  have hge := ownsRow_ge HU.out
  have hm2 := Mod.grownOwn ((Mod.refl [] W0).alloc (.cells #[.int .i64 k, .int .u64 0, .int .i64 0] 55)) hgr
  have hno : ∀ x, x < B → x ∉ v.ownBlock.toList := fun x hx hb => by
    rw [Option.mem_toList] at hb
    have := (hge x hb).1
    omega
  have hlt := HNE.out.2.1
  have p2' := hm2.at p0 (hno _ hlt.1)
  have pf2' := (hm2.frozen (p := ⟨pl, 0, none⟩) (cell_lt' p0) (hno _ hlt.1)).trans HC.out.2.1
  have HRUN := Lib.hid hrun
  have HP2 := Lib.hid (And.intro p2' pf2')
  have HM2 := Lib.hid (And.intro hm2 hU2)
  have hbi0 := HBI.out
  have hgl : ¬ gl = bi := fun e => by
    rcases hgl0 with h | h
    · have := HVW.out gl (by rw [h]; simp) (by omega)
      exact this
    · have : bi < W0.heap.size := (Array.getElem?_eq_some_iff.1 HROW.out).1
      simp at h
      omega
  have HGL := Lib.hid hgl
  have HNO := Lib.hid hno
  have HLN := Lib.hid hln
  clear hma hBW hrun hU2 hgr hge hm2 hno hlt p2' pf2' hln hbi0 hgl hgl0
  go_upto_region 2 with (at_builtin; with_reducible refine wplk_append_run _ rfl (.tmp 5) (.tmp 8) 37 rfl v (.slice (some ⟨W0.heap.size, 0, none⟩) 1 1) rfl rfl HRUN.out ?_; have p2 := HP2.out.1; have pf2 := HP2.out.2)
  have hgB := (ownsRow_ge HM2.out.2 gl rfl).1
  have hneq := HNE.out.1
  have hlt := HNE.out.2.1
  have hBs := HNE.out.2.2
  have hbi := HBI.out
  have hbo : bi ∉ v.ownBlock.toList := fun hb => HVW.out bi hb (by omega)
  have hs1 : Mod [pl] w2 (w2.setCell ⟨pl, 0, none⟩ (.slice (some ⟨gl, 0, none⟩) ln capl)) := (Mod.refl _ _).setCell (.inl (by simp)) _
  have HPL2 := Lib.hid (show (w2.setCell ⟨pl, 0, none⟩ (.slice (some ⟨gl, 0, none⟩) ln capl)).cell? ⟨pl, 0, none⟩ = some (.slice (some ⟨gl, 0, none⟩) ln capl) from cell_set_same p2)
  have HPF := Lib.hid (show (w2.setCell ⟨pl, 0, none⟩ (.slice (some ⟨gl, 0, none⟩) ln capl)).frozen? ⟨pl, 0, none⟩ = false from (frozen_set _ _ _ _).trans pf2)
  have HU2 := Lib.hid (ownsRow_mod HM2.out.2 hs1 (by simp [Value.ownBlock]; omega))
  have HMW := Lib.hid ((((HM0.out.wide (T := pl :: b :: v.ownBlock.toList) (by simp)).trans (HM2.out.1.wide (by intro x hx; simp [hx]))).trans (hs1.wide (by simp))))
  have HR2 := Lib.hid (row_mod hs1 (row_mod HM2.out.1 HROW.out hbo) (show bi ∉ [pl] by simp; omega))
  have hm02 := (HM2.out.1.wide (T := pl :: v.ownBlock.toList) (by intro x hx; simp [hx])).trans (hs1.wide (by simp))
  have hnp : ∀ x, x < B → x ≠ pl → x ∉ pl :: v.ownBlock.toList := fun x hx hp hm => by
    simp only [List.mem_cons] at hm
    rcases hm with hm | hm
    · exact hp hm
    · exact HNO.out x hx hm
  have HC2 := Lib.hid (And.intro (hm02.at HC.out.2.2.1 (hnp pn hlt.2.1 hneq.1.symm)) (And.intro (hm02.at HC.out.2.2.2.1 (hnp pq hlt.2.2.1 hneq.2.1.symm)) (And.intro (hm02.at HC.out.2.2.2.2.1 (hnp q hlt.2.2.2.1 hneq.2.2.1.symm)) (HC.out.2.2.2.2.2.kept hm02 (hnp b hlt.2.2.2.2 hneq.2.2.2.1.symm)))))
  clear x0 x1 x2 p0 p2 pf2 hs1 hm02 hnp HM2 HP2 HRUN HC HROW HM0 HU hgB hneq hlt hBs hbi hbo
  generalize w2.setCell ⟨pl, 0, none⟩ (.slice (some ⟨gl, 0, none⟩) ln capl) = W2 at HPL2 HPF HU2 HMW HR2 HC2 ⊢
  have x3 := cell_in HR2.out (show (#[Value.int .i64 k, .int .u64 0, .int .i64 0, .int .i64 t] : Array Value)[3]? = some (.int .i64 t) from rfl)
  have f3 := free_in (j := 3) HR2.out
  obtain ⟨t1, ht1⟩ : ∃ t1 : Nat, t1 = t + 1 := ⟨_, rfl⟩
  have hwt : IntKind.i64.wrap ((t : Int) + 1) = t1 := by rw [ht1]; exact IntWalk.i64_in _ ⟨by omega, by have := HK.out.2.1; omega⟩
  have hwt2 : wrap64 ((t : Int) + 1) = t1 := by rw [ht1]; exact wrap_small (by omega) (by have := HK.out.2.1; omega)
  have HT1 := Lib.hid ht1
  clear ht1
  go_upto_region 3 with fail
  have hs3 : Mod [bi] W2 (W2.setCell ⟨bi, 3, none⟩ (.int .i64 t1)) := (Mod.refl _ _).setCell (.inl (by simp)) _
  have hneq := HNE.out.1
  have hlt := HNE.out.2.1
  have hBs := HNE.out.2.2
  have hbi := HBI.out
  have y0 : (W2.setCell ⟨bi, 3, none⟩ (.int .i64 t1)).cell? ⟨bi, 0, none⟩ = some (.int .i64 k) := (cell_set_off _ _ _ _ (by simp)).trans (cell_in HR2.out (show (#[Value.int .i64 k, .int .u64 0, .int .i64 0, .int .i64 t] : Array Value)[0]? = some (.int .i64 k) from rfl))
  have y1 : (W2.setCell ⟨bi, 3, none⟩ (.int .i64 t1)).cell? ⟨bi, 1, none⟩ = some (.int .u64 0) := (cell_set_off _ _ _ _ (by simp)).trans (cell_in HR2.out (show (#[Value.int .i64 k, .int .u64 0, .int .i64 0, .int .i64 t] : Array Value)[1]? = some (.int .u64 0) from rfl))
  have y2 : (W2.setCell ⟨bi, 3, none⟩ (.int .i64 t1)).cell? ⟨bi, 2, none⟩ = some (.int .i64 0) := (cell_set_off _ _ _ _ (by simp)).trans (cell_in HR2.out (show (#[Value.int .i64 k, .int .u64 0, .int .i64 0, .int .i64 t] : Array Value)[2]? = some (.int .i64 0) from rfl))
  have y3 : (W2.setCell ⟨bi, 3, none⟩ (.int .i64 t1)).cell? ⟨bi, 3, none⟩ = some (.int .i64 t1) := cell_set_same x3
  have hnb : ∀ x, x < B → x ∉ [bi] := fun x hx => by simp; omega
  have hglw : gl ≠ bi := fun e => HGL.out (by omega)
  replace HPL2 := Lib.hid (hs3.at HPL2.out (hnb pl hlt.1))
  replace HPF := Lib.hid (show (W2.setCell ⟨bi, 3, none⟩ (.int .i64 t1)).frozen? ⟨pl, 0, none⟩ = false from (frozen_set _ _ _ _).trans HPF.out)
  replace HU2 := Lib.hid (ownsRow_mod HU2.out hs3 (by simp [Value.ownBlock]; exact hglw))
  replace HMW := Lib.hid (HMW.out.step hs3 (fun x hx => .inr (by simp at hx; omega)))
  replace HC2 := Lib.hid (And.intro (hs3.at HC2.out.1 (hnb pn hlt.2.1)) (And.intro (hs3.at HC2.out.2.1 (hnb pq hlt.2.2.1)) (And.intro (hs3.at HC2.out.2.2.1 (hnb q hlt.2.2.2.1)) (HC2.out.2.2.2.kept hs3 (hnb b hlt.2.2.2.2)))))
  have HY := Lib.hid (And.intro y0 (And.intro y1 (And.intro y2 y3)))
  clear hs3 hneq hlt hBs hbi y0 y1 y2 y3 x3 f3 hnb hglw HR2
  generalize W2.setCell ⟨bi, 3, none⟩ (.int .i64 t1) = W3 at HPL2 HPF HU2 HMW HC2 HY ⊢
  have y3 := HY.out.2.2.2
  have n0 := HC2.out.1
  have hk := HK.out.1
  have hN := HK.out.2.2.1
  have hm4 : Mod [] W3 W3.drew := (Mod.refl [] W3).drew
  have hrest : ∀ W5, Mod [b] W3.drew W5 → QMap W5 b N → ∃ v', TellAt W5 q o b pl pn pq n N B v' (L ++ [k]) ∧ Mod (pl :: b :: v.ownBlock.toList) w W5 := fun W5 hm hq => by
    have hne := HNE.out.1
    have hbs := HNE.out.2.2
    have hlt := HNE.out.2.1
    have hmm := (hm4.wide (T := [b]) (by simp)).trans hm
    have hgB := (ownsRow_ge HU2.out gl rfl).1
    refine ⟨_, ⟨hmm.at HPL2.out (by simp; omega), (hmm.frozen (p := ⟨pl, 0, none⟩) (cell_lt' HPL2.out) (by simp; omega)).trans HPF.out, hmm.at HC2.out.1 (by simp; omega), hmm.at HC2.out.2.1 (by simp; omega), hmm.at HC2.out.2.2.1 (by simp; omega), hq, ?_, hne, hlt, ?_, ?_⟩, HMW.out.trans (hmm.wide (by simp))⟩
    · have := ownsRow_mod HU2.out hmm (by simp [Value.ownBlock]; omega)
      unfold Upds
      simpa using this
    · exact Nat.le_trans hbs (HMW.out.trans (hmm.wide (by simp))).size
    · have := HK.out.2.2.2
      simp
      omega
  have HREST := Lib.hid hrest
  have hq4 : QMap W3.drew b N := HC2.out.2.2.2.kept hm4 (by simp)
  have q1 := hm4.at HC2.out.2.1 (by simp)
  have q2 := hm4.at HC2.out.2.2.1 (by simp)
  obtain ⟨z0, z1, z2, z3⟩ := HY.out
  have z0 := hm4.at z0 (by simp)
  have z1 := hm4.at z1 (by simp)
  have z2 := hm4.at z2 (by simp)
  have z3 := hm4.at z3 (by simp)
  have HQ4 := Lib.hid hq4
  clear hq4 hrest
  by_cases hc : (t1 : Int) < c
  · have ht1 : t1 ≤ 100 := by omega
    obtain ⟨W5, hput, hq5, hm5⟩ := (HQ4.out.kept (Mod.refl [] W3.drew).drew (by simp)).put hN hk ⟨k, t1, hk, ht1, rfl⟩
    have HPUT := Lib.hid (And.intro hput (HREST.out _ (((Mod.refl [] _).drew.wide (by simp)).trans hm5) hq5))
    clear hq5 hm5 hput ht1
    have hput := HPUT.out.1
    go_region_held3 (fun w' => w'.cell? ⟨bi, 3, none⟩ = some (.int .i64 t1) ∧ w'.cell? ⟨pn, 0, none⟩ = some (.int .i64 n)) (exact ⟨y3, n0⟩) ((go_at_call 148; refine (HCAP.out _).mono ?_; rintro e w5 ⟨rfl, rfl⟩))
    clear y3 n0 hm4
    generalize W3.drew = W4 at z0 z1 z2 z3 q1 q2 hput HPUT ⊢
    go_wp2_with fail
    go_region
    go_wp2_with fail
    refine bodyPost_end (results_none rfl _ _ _) rfl ?_
    exact ⟨rfl, HPUT.out.2⟩
  · obtain ⟨W6, hdel, hq6, hm6⟩ := (HQ4.out.kept (Mod.refl [] W3.drew).drew (by simp)).drop hN hk 0
    have HDEL := Lib.hid (And.intro hdel (HREST.out _ (((Mod.refl [] _).drew.wide (by simp)).trans hm6) hq6))
    clear hdel hq6 hm6
    have hdel := HDEL.out.1
    go_region_held3 (fun w' => w'.cell? ⟨bi, 3, none⟩ = some (.int .i64 t1) ∧ w'.cell? ⟨pn, 0, none⟩ = some (.int .i64 n)) (exact ⟨y3, n0⟩) ((go_at_call 148; refine (HCAP.out _).mono ?_; rintro e w5 ⟨rfl, rfl⟩))
    clear y3 n0 hm4
    generalize W3.drew = W4 at z0 z1 z2 z3 q1 q2 hdel HDEL ⊢
    go_wp2_with fail
    go_region
    go_wp2_with fail
    refine bodyPost_end (results_none rfl _ _ _) rfl ?_
    exact ⟨rfl, HDEL.out.2⟩

end Go.Proofs.YtaaaiggbnkeblaaGreatDoor
