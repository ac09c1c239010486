/-
  A slice of messages of the program's own, at whatever place of its block: append of one.
-/
import Derived.Test.YtkafejbfhmolhaaMsgs
import Derived.Deep.AppendSrc
import Derived.Laws.AppendOwn
import Derived.Deep.DeepAppendWide
import Derived.Deep.RegionLaw
import Derived.Deep.RegionHeld3
namespace Go.Proofs.Ytkafejbfhmolhaa
open Go.RowKit

/-- The slice (a, c) holds L; its block is none of G and not below B; all its cells are there and may be written. -/
def SlMs (B : Nat) (G : List Nat) (w : World) (a : Option Addr) (c : Nat) (L : List M) : Prop :=
  L.length ≤ c ∧ c ≤ maxLen ∧ (a = none → c = 0) ∧ ∀ ad, a = some ad → ∃ g off, ad = ⟨g, off, none⟩ ∧ g ∉ G ∧ B ≤ g ∧ g < w.heap.size ∧ w.rangeAt g off (flat L) ∧ w.there g off (c * 3)

theorem SlMs.nil (B : Nat) (G : List Nat) (w : World) : SlMs B G w none 0 [] := ⟨Nat.le_refl _, by simp, fun _ => rfl, fun ad h => by cases h⟩

/-- Behind a step that turns no block but those of S. -/
theorem SlMs.mod {B : Nat} {G S : List Nat} {w w' : World} {a : Option Addr} {c : Nat} {L : List M} (h : SlMs B G w a c L) (hm : Mod S w w') (hS : ∀ s ∈ S, s ∈ G ∨ s < B) : SlMs B G w' a c L := by
  obtain ⟨h1, h2, h3, h4⟩ := h
  refine ⟨h1, h2, h3, fun ad ha => ?_⟩
  obtain ⟨g, off, e, hg, hB, hlt, hr, ht⟩ := h4 ad ha
  have hgS : g ∉ S := fun hs => (hS g hs).elim hg (fun h => by omega)
  exact ⟨g, off, e, hg, hB, Nat.lt_of_lt_of_le hlt hm.size, rangeAt_mod hr hlt hm hgS, there_mod ht hlt hm hgS⟩

theorem SlMs.rd {B : Nat} {G : List Nat} {w : World} {a : Option Addr} {c : Nat} {L : List M} (h : SlMs B G w a c L) : RdMs w a L := fun hne => by
  obtain ⟨h1, h2, h3, h4⟩ := h
  cases a with
  | none =>
    have := h3 rfl
    exact absurd (List.eq_nil_of_length_eq_zero (by omega)) hne
  | some ad =>
    obtain ⟨g, off, rfl, _, _, hlt, hr, _⟩ := h4 ad rfl
    exact ⟨g, off, rfl, hlt, hr⟩

theorem SlMs.more {B : Nat} {G : List Nat} {w : World} {a : Option Addr} {c : Nat} {L : List M} (h : SlMs B G w a c L) (T : List Nat) (hT : ∀ s ∈ T, w.heap.size ≤ s) : SlMs B (T ++ G) w a c L := by
  obtain ⟨h1, h2, h3, h4⟩ := h
  refine ⟨h1, h2, h3, fun ad ha => ?_⟩
  obtain ⟨g, off, e, hg, hB, hlt, hr, ht⟩ := h4 ad ha
  exact ⟨g, off, e, fun hs => (List.mem_append.1 hs).elim (fun h => by have := hT _ h; omega) hg, hB, hlt, hr, ht⟩
theorem SlMs.less {B : Nat} {G T : List Nat} {w : World} {a : Option Addr} {c : Nat} {L : List M} (h : SlMs B (T ++ G) w a c L) : SlMs B G w a c L := by
  obtain ⟨h1, h2, h3, h4⟩ := h
  refine ⟨h1, h2, h3, fun ad ha => ?_⟩
  obtain ⟨g, off, e, hg, hB, hlt, hr, ht⟩ := h4 ad ha
  exact ⟨g, off, e, fun hs => hg (List.mem_append_right _ hs), hB, hlt, hr, ht⟩

/-- A region whose ways all end alike. -/
theorem wp_merge {P : Program} {c : Code} {Q : Exit → Act → World → Prop} {a : Act} {w : World} (A : Act) (B : World) (h : c.wp P (NoPanic fun e a' w' => e = .normal ∧ a' = A ∧ w' = B) a w) (hc : Q .normal A B) : c.wp P Q a w :=
  Code.wp_mono (fun e a' w' h => by
    have h2 := NoPanic.imp _ _ _ h
    obtain ⟨rfl, rfl, rfl⟩ := h2
    exact hc) h

/-- Blocks that may turn: r, or such as are none of G and not below B. -/
def ModG (B : Nat) (G : List Nat) (r : Nat) (w w' : World) : Prop := ∃ S, Mod S w w' ∧ ∀ s ∈ S, s = r ∨ (B ≤ s ∧ s ∉ G)

theorem mcells_one (m : M) : ∀ u ∈ mcells m, u.oneCell' = true := by
  intro u hu
  simp [mcells] at hu
  rcases hu with rfl | rfl | rfl <;> rfl

theorem flat_one_len (m : M) : (mcells m).length = 1 * 3 := rfl

theorem append_sl {B : Nat} {G : List Nat} {w : World} {a : Option Addr} {c : Nat} {L : List M} (h : SlMs B G w a c L) (b cx : Nat) (m : M) (hr : w.rangeAt b 0 (mcells m)) (hl : L.length ≤ 1000) (hG : ∀ s ∈ G, s < w.heap.size) (hB : B ≤ w.heap.size) :
    ∃ a' c' w', (Builtin.append_ #[36, 36] 36 #[.slice a L.length c, .slice (some ⟨b, 0, none⟩) 1 cx]).run Try.prog w = .ok (.slice a' (L.length + 1) c') w' ∧ SlMs B G w' a' c' (L ++ [m]) ∧
      ∃ S, Mod S w w' ∧ ∀ s ∈ S, B ≤ s ∧ s ∉ G ∧ ∃ ad, a = some ad ∧ ad.block = s := by
  obtain ⟨i, hi, hz, hsz, hby⟩ := infoMsg
  obtain ⟨h1, h2, h3, h4⟩ := h
  have hsrc : Src Try.prog i.size 36 (.slice (some ⟨b, 0, none⟩) 1 cx) 1 (mcells m) w :=
    Src.ofSlice w Try.underlying36 _ 1 cx (mcells m) (by rw [hsz]; rfl) (fun j u hj => by rw [Addr.add_mid]; exact hr j u hj) (mcells_one m)
  have hfl : (flat L).length = L.length * 3 := flat_length L
  by_cases hroom : L.length + 1 ≤ c
  · cases a with
    | none => have := h3 rfl; omega
    | some ad =>
      obtain ⟨g, off, rfl, hgG, hgB, hlt, hrg, hth⟩ := h4 ad rfl
      have hc3 : ∀ j, j < (mcells m).length → (w.cell? ⟨g, off + L.length * i.size + j, none⟩).isSome = true ∧ w.frozen? ⟨g, off + L.length * i.size + j, none⟩ = false := fun j hj => by
        have hj3 : j < 3 := hj
        have := hth (L.length * 3 + j) (by omega)
        rw [← Nat.add_assoc] at this
        rw [hsz]
        exact this
      have hrun := run_append_room_src (P := Try.prog) w 36 36 36 30 i Try.underlying36 hi g off L.length c _ 1 (mcells m) hsrc hroom (fun j hj => (hc3 j hj).1) (fun j hj => (hc3 j hj).2)
      rw [hsz] at hrun hc3
      have hblk : ∀ k, k ≠ g → (w.setCells g (off + L.length * 3) (mcells m)).heap[k]? = w.heap[k]? := fun k hk => by
        simp only [mcells, World.setCells]
        rw [Below.heap_setCell _ _ _ _ hk, Below.heap_setCell _ _ _ _ hk, Below.heap_setCell _ _ _ _ hk]
      have hsize : (w.setCells g (off + L.length * 3) (mcells m)).heap.size = w.heap.size := by simp [mcells, World.setCells, World.setCell]
      have hin := World.cell?_setCells_in g (mcells m) (off + L.length * 3) w (fun j hj => (hc3 j hj).1)
      have hout := fun x => World.cell?_setCells_out g (mcells m) (off + L.length * 3) w x
      refine ⟨some ⟨g, off, none⟩, c, _, hrun, ⟨by simp; omega, h2, fun h => (by cases h), fun ad had => ?_⟩, [g], ⟨rfl, rfl, rfl, by rw [hsize]; exact Nat.le_refl _, fun k _ hk => hblk k (by simpa using hk)⟩, fun s hs => by simp at hs; subst hs; exact ⟨hgB, hgG, _, rfl, rfl⟩⟩
      injection had with had
      subst had
      refine ⟨g, off, rfl, hgG, hgB, by rw [hsize]; exact hlt, fun j u hj => ?_, fun j hj => ⟨?_, ?_⟩⟩
      · rw [flat_append, flat_one] at hj
        by_cases hjl : j < L.length * 3
        · rw [List.getElem?_append_left (by omega)] at hj
          rw [hout ⟨g, off + j, none⟩ (fun _ _ => Or.inl (by simp; omega))]
          exact hrg j u hj
        · rw [List.getElem?_append_right (by omega), hfl] at hj
          have hj3 : j - L.length * 3 < (mcells m).length := (List.getElem?_eq_some_iff.1 hj).1
          have := hin (j - L.length * 3) hj3
          rw [show off + L.length * 3 + (j - L.length * 3) = off + j by omega] at this
          rw [this, ← List.getElem?_eq_getElem hj3]
          exact hj
      · by_cases hjl : L.length * 3 ≤ j ∧ j < L.length * 3 + 3
        · have := hin (j - L.length * 3) (show j - L.length * 3 < 3 by omega)
          rw [show off + L.length * 3 + (j - L.length * 3) = off + j by omega] at this
          rw [this]
          rfl
        · rw [hout ⟨g, off + j, none⟩ (fun _ _ => by simp [mcells]; omega)]
          exact (hth j hj).1
      · rw [World.frozen?_setCells]
        exact (hth j hj).2
  · have hold : (Builtin.firstCells i.size L.length (.slice a L.length c)).run Try.prog w.drew = .ok (flat L).toArray w.drew := by
      cases a with
      | none =>
        have := h3 rfl
        have hL : L = [] := List.eq_nil_of_length_eq_zero (by omega)
        subst hL
        exact run_firstCells_none w.drew i.size 0 0 c
      | some ad =>
        obtain ⟨g, off, rfl, _, _, _, hrg, _⟩ := h4 ad rfl
        exact run_firstCells_some w.drew i.size L.length _ L.length c (flat L) (by rw [hsz]; exact hfl) (fun j u hj => by rw [Addr.add_mid]; exact hrg j u hj)
    have hfit : Builtin.nextslicecap (L.length + 1) c * i.bytes ≤ 281474976710656 := by
      have h5 := nextslicecap_le_wide (show c < L.length + 1 by omega)
      have h6 := Nat.mul_le_mul h5 hby
      omega
    have hrun := run_append_grow_src (P := Try.prog) w 36 36 36 30 i _ Try.underlying36 hi hz a L.length c (flat L) hold _ 1 (mcells m) hsrc (by omega) (by omega) hfit
    have hge := grownCap_ge w (L.length + 1) c 30
    have hle := grownCap_le_maxLen w (L.length + 1) c 30 (by unfold maxLen; omega)
    obtain ⟨cc, hcc⟩ : ∃ cc, grownCap w (L.length + 1) c 30 = cc := ⟨_, rfl⟩
    rw [hcc] at hrun hge hle
    refine ⟨_, _, _, hrun, ⟨by simp; omega, hle, fun h => (by cases h), fun ad had => ?_⟩, [], ((Mod.refl [] w).drew).alloc _, by simp⟩
    injection had with had
    subst had
    have hnew := heap_new w.drew (.cells (((flat L ++ mcells m).toArray) ++ Builtin.zeroCells (Value.agg #[.int .i64 0, .int .u64 0, .string ⟨#[]⟩]).cells (cc - (L.length + 1))) 30)
    have hszA : (((flat L ++ mcells m).toArray) ++ Builtin.zeroCells (Value.agg #[.int .i64 0, .int .u64 0, .string ⟨#[]⟩]).cells (cc - (L.length + 1))).size = cc * 3 := by
      rw [Array.size_append, size_zeroCells]
      simp [hfl, mcells, Value.cells]
      omega
    have hdr : w.drew.heap.size = w.heap.size := rfl
    refine ⟨w.heap.size, 0, rfl, fun hs => by have := hG _ hs; omega, hB, by simp, fun j u hj => ?_, fun j hj => ⟨?_, free_in hnew⟩⟩
    · rw [flat_append, flat_one] at hj
      rw [Nat.zero_add]
      refine cell_in hnew ?_
      rw [Array.getElem?_append_left (by simpa using (List.getElem?_eq_some_iff.1 hj).1)]
      simpa using hj
    · rw [Nat.zero_add]
      exact some_in hnew (by rw [hszA]; exact hj)

/-- At a step of a region that draws its order: an append whose run is known. -/
theorem step_append_run {P : Program} {w : World} {ops : Array Oper} {o : Oper} {a : Act} {K : Act → World → Prop} {Q : Exit → Act → World → Prop} {E : Prop} (hgd : o.guard = none) (s x : Operand) (t : TypeId)
    (ho : o.op = .call { callee := .builtin .append, args := #[s, x], argTypes := #[t, t] }) (v y v' : Value) (w' : World) (hs : a.eval s = v) (hx : a.eval x = y) (hr : (Builtin.append_ #[t, t] o.type #[v, y]).run P w = .ok v' w') (h : K (a.put o.dst v') w') :
    if Region.wanted o (yielded ops a.tmps) = true then Oper.wp P o a w K Q else E := by
  have hw : Region.wanted o (yielded ops a.tmps) = true := by simp [Region.wanted, hgd]
  rw [if_pos hw]
  unfold Oper.wp execOp
  simp only [ho, resolve, invoke, builtin, Sem.run_bind, Sem.run_pure, Result.andThen_ok, List.map_toArray, List.map_cons, List.map_nil, hs, hx, hr]
  exact h

end Go.Proofs.Ytkafejbfhmolhaa
