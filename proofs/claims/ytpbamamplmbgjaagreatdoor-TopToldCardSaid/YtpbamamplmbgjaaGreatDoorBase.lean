/-
  Words of this seat's own: a frame by a list of blocks; a row of cells that is read; lots in memory. Nothing of the program stands here.
-/
import Derived.Test.YtpbamamplmbgjaaGreatDoorRows
import Derived.WalkKit
import Derived.WalkSpells
import Derived.WalkLawsBesides
import Derived.Lib.Hide
import Derived.Deep.QuietTactic
import Derived.BigQuiet
import Derived.Deep.OwnRows
import Derived.Laws.CopyOwn
namespace Go.Proofs.YtpbamamplmbgjaaGreatDoor
set_option linter.unusedSimpArgs false
set_option linter.unusedVariables false
open Go.RowKit

/-- Of the blocks that were there, those outside S are as they were. -/
structure Mod (S : List Nat) (w w' : World) : Prop where
  os : w'.os = w.os
  tape : w'.tape = w.tape
  output : w'.output = w.output
  size : w.heap.size ≤ w'.heap.size
  block : ∀ k, k < w.heap.size → k ∉ S → w'.heap[k]? = w.heap[k]?

theorem Mod.refl (S : List Nat) (w : World) : Mod S w w := ⟨rfl, rfl, rfl, Nat.le_refl _, fun _ _ _ => rfl⟩
theorem Mod.trans {S : List Nat} {a b c : World} (h : Mod S a b) (k : Mod S b c) : Mod S a c :=
  ⟨k.os.trans h.os, k.tape.trans h.tape, k.output.trans h.output, Nat.le_trans h.size k.size, fun i hi hs => (k.block i (Nat.lt_of_lt_of_le hi h.size) hs).trans (h.block i hi hs)⟩
theorem Mod.step {S T : List Nat} {a b c : World} (h : Mod S a b) (k : Mod T b c) (ht : ∀ t ∈ T, t ∈ S ∨ a.heap.size ≤ t) : Mod S a c :=
  ⟨k.os.trans h.os, k.tape.trans h.tape, k.output.trans h.output, Nat.le_trans h.size k.size, fun i hi hs => (k.block i (Nat.lt_of_lt_of_le hi h.size) (fun hx => (ht i hx).elim hs (fun hlt => by omega))).trans (h.block i hi hs)⟩
theorem Mod.drewN {S : List Nat} {a w : World} (h : Mod S a w) (n : Nat) : Mod S a (w.drewN n) := ⟨h.os, h.tape, h.output, h.size, h.block⟩
theorem Mod.mono {S T : List Nat} {a b : World} (h : Mod S a b) (hs : ∀ k, k < a.heap.size → k ∈ S → k ∈ T) : Mod T a b :=
  ⟨h.os, h.tape, h.output, h.size, fun i hi ht => h.block i hi (fun hx => ht (hs i hi hx))⟩
theorem Mod.alloc {S : List Nat} {a w : World} (h : Mod S a w) (o : Obj) : Mod S a (w.alloc o) :=
  h.trans ⟨rfl, rfl, rfl, by simp, fun k hk _ => Below.heap_alloc _ _ _ hk⟩
theorem Mod.drew {S : List Nat} {a w : World} (h : Mod S a w) : Mod S a w.drew := ⟨h.os, h.tape, h.output, h.size, h.block⟩
theorem Mod.setCell {S : List Nat} {a w : World} (h : Mod S a w) {p : Addr} (hp : p.block ∈ S ∨ a.heap.size ≤ p.block) (u : Value) : Mod S a (w.setCell p u) :=
  ⟨h.os, h.tape, h.output, by simpa [World.setCell] using h.size, fun k hk hs => (Below.heap_setCell _ _ _ _ (by
    rintro rfl
    rcases hp with hp | hp
    · exact hs hp
    · omega)).trans (h.block k hk hs)⟩
theorem Mod.grown {S : List Nat} {a w w' : World} (h : Mod S a w) {g : Nat} (hg : w.grownBy w' (some g)) (hs : g ∈ S ∨ a.heap.size ≤ g) : Mod S a w' :=
  ⟨hg.os.trans h.os, hg.tape.trans h.tape, hg.output.trans h.output, Nat.le_trans h.size hg.size, fun k hk hks => (hg.block k (Nat.lt_of_lt_of_le hk h.size) (by
    rintro ⟨⟩
    rcases hs with hs | hs
    · exact hks hs
    · omega)).trans (h.block k hk hks)⟩
theorem heap_new (w : World) (o : Obj) : (w.alloc o).heap[w.heap.size]? = some o := by
  show (w.heap.push o)[w.heap.size]? = _
  simp
theorem heap_at (w : World) (o : Obj) (n : Nat) (h : n = w.heap.size) : (w.alloc o).heap[n]? = some o := by
  subst h
  exact heap_new w o
theorem heap_two (w : World) (o1 o2 : Obj) : ((w.alloc o1).alloc o2).heap[w.heap.size]? = some o1 := by
  rw [Below.heap_alloc _ _ _ (by simp)]
  exact heap_new w o1
theorem heap_top (w : World) (o1 o2 : Obj) : ((w.alloc o1).alloc o2).heap[w.heap.size + 1]? = some o2 := by
  have h := heap_new (w.alloc o1) o2
  simpa using h
theorem Mod.below {a b : World} (h : Mod [] a b) : Below a.heap.size a b := ⟨h.os, h.tape, h.output, h.size, fun k hk => h.block k hk (by simp)⟩
theorem Mod.of_below {S : List Nat} {a b : World} (h : Below a.heap.size a b) : Mod S a b := ⟨h.os, h.tape, h.output, h.size, fun k hk _ => h.block k hk⟩
theorem Mod.cell {S : List Nat} {a b : World} (h : Mod S a b) {p : Addr} (hp : p.block < a.heap.size) (hs : p.block ∉ S) : b.cell? p = a.cell? p := World.cell?_of_block (w := a) (h.block p.block hp hs)
theorem Mod.frozen {S : List Nat} {a b : World} (h : Mod S a b) {p : Addr} (hp : p.block < a.heap.size) (hs : p.block ∉ S) : b.frozen? p = a.frozen? p := World.frozen?_of_block (w := a) (h.block p.block hp hs)

theorem cell_set_same {w : World} {a : Addr} {v u : Value} (h : w.cell? a = some u) : (w.setCell a v).cell? a = some v := World.cell?_setCell_same' _ _ _ (by rw [h]; rfl)
theorem cell_set_far (w : World) (p a : Addr) (v : Value) (h : p.block ≠ a.block) : (w.setCell p v).cell? a = w.cell? a :=
  World.cell?_of_block (w := w) (Below.heap_setCell _ _ _ _ (Ne.symm h))

theorem cell_set_off (w : World) (p a : Addr) (v : Value) (h : p.off ≠ a.off) : (w.setCell p v).cell? a = w.cell? a :=
  World.cell?_setCell_other _ _ _ _ (fun e => h (by rw [e]))

theorem cell_in {w : World} {g j : Nat} {cs : Array Value} {t : TypeId} {fz : Nat × Nat} {v : Value} (h : w.heap[g]? = some (.cells cs t fz)) (hj : cs[j]? = some v) : w.cell? ⟨g, j, none⟩ = some v := by
  simp only [World.cell?, h]
  simpa using hj
theorem free_in {w : World} {g j : Nat} {cs : Array Value} {t : TypeId} (h : w.heap[g]? = some (.cells cs t (0, 0))) : w.frozen? ⟨g, j, none⟩ = false := by
  simp only [World.frozen?, h]
  simp

theorem ret_int {k : IntKind} {a b : Int} (h : a = b) : Ending.returned (.int k a) = .returned (.int k b) := by rw [h]
theorem wrap_small {a : Int} (h0 : 0 ≤ a) (h1 : a ≤ 9223372036854775807) : wrap64 a = a := by unfold wrap64; omega

/-- A slice's numbers, where it has any. -/
def RdInts (k : IntKind) (w : World) (a : Option Addr) (xs : List Int) : Prop :=
  xs ≠ [] → ∃ ad, a = some ad ∧ ad.block < w.heap.size ∧ ∀ j x, xs[j]? = some x → w.cell? (ad.add j) = some (.int k x)

theorem add_block (ad : Addr) (j : Nat) : (ad.add j).block = ad.block := by unfold Addr.add; split <;> rfl
theorem add_lit (b o j : Nat) : (⟨b, o, none⟩ : Addr).add j = ⟨b, o + j, none⟩ := by
  unfold Addr.add; split
  · next h => subst h; rfl
  · rfl

theorem RdInts.alloc {k : IntKind} {w : World} {a : Option Addr} {xs : List Int} (h : RdInts k w a xs) (o : Obj) : RdInts k (w.alloc o) a xs := by
  intro hx
  obtain ⟨ad, h1, h2, h3⟩ := h hx
  refine ⟨ad, h1, by simp; omega, fun j x hj => ?_⟩
  rw [World.cell?_of_block (w := w) (Below.heap_alloc _ _ _ (by rw [add_block]; exact h2))]
  exact h3 j x hj

/-- 'copy(out, l)', out a row of the call's own as long as l. -/
theorem wpList_copy_full {P : Program} {w : World} {ops : Array Oper} {rest : List Oper} {o : Oper} {a : Act} {Q : Exit → Act → World → Prop} (hgd : o.guard = none) (d s : Operand) (dT sT : TypeId)
    (ho : o.op = .call { callee := .builtin .copy, args := #[d, s], argTypes := #[dT, sT] }) (elem : TypeId) (hu : P.underlying dT = some (.slice elem)) (hsz : (P.info? elem).map (·.size) = some 1)
    (k : IntKind) (xs : List Int) (g dCap sCap : Nat) (sp : Option Addr) (hd : a.eval d = .slice (some ⟨g, 0, none⟩) xs.length dCap) (hs : a.eval s = .slice sp xs.length sCap)
    (cur : Array Value) (t : TypeId) (hg : w.heap[g]? = some (.cells cur t (0, 0))) (hcur : cur.size = xs.length) (hsrc : RdInts k w sp xs)
    (h : ∀ w', w'.heap[g]? = some (.cells (xs.map (Value.int k)).toArray t (0, 0)) → w.grownBy w' (some g) → w'.heap.size = w.heap.size → wpList P ops Q rest (a.put o.dst (goInt xs.length)) w') : wpList P ops Q (o :: rest) a w := by
  by_cases h0 : xs = []
  · subst h0
    refine wpList_copy_nothing hgd d s dT sT ho elem hu hsz _ sp 0 dCap 0 sCap hd hs rfl ?_
    refine h w ?_ (World.grownBy.refl w _) rfl
    rw [hg, Array.eq_empty_of_size_eq_zero hcur]
    rfl
  · obtain ⟨ad, rfl, _, h3⟩ := hsrc h0
    refine wpList_copy_own hgd d s dT sT ho elem hu hsz g 0 xs.length dCap ad xs.length sCap hd hs cur t hg (xs.map (Value.int k)) (by simp) ?_ (by simp; omega) (ints_oneCell _ _) ?_
    · intro j v hj
      simp only [List.getElem?_map, Option.map_eq_some_iff] at hj
      obtain ⟨x, hx, rfl⟩ := hj
      exact h3 j x hx
    · have hr := setRow_heap w g cur (xs.map (Value.int k)).toArray t (0, 0) hg
      have hd0 : cur.toList.drop xs.length = [] := List.drop_eq_nil_of_le (by simp; omega)
      simp only [List.take_zero, List.nil_append, Nat.zero_add, List.length_map, hd0, List.append_nil]
      exact h _ hr ⟨rfl, rfl, rfl, by simp [World.setRow], fun k _ hk => setRow_other w g k _ (by simpa using hk)⟩ (by simp [World.setRow])

theorem RdInts.of_row {k : IntKind} {w : World} {g : Nat} {xs : List Int} {t : TypeId} (h : w.heap[g]? = some (.cells (xs.map (Value.int k)).toArray t (0, 0))) : RdInts k w (some ⟨g, 0, none⟩) xs := by
  intro _
  refine ⟨_, rfl, (Array.getElem?_eq_some_iff.1 h).1, fun j x hj => ?_⟩
  rw [add_lit, Nat.zero_add]
  simp [World.cell?, h, hj]

theorem RdInts.mod {k : IntKind} {w w' : World} {S : List Nat} {a : Option Addr} {xs : List Int} (h : RdInts k w a xs) (hm : Mod S w w') (hs : ∀ ad, a = some ad → ad.block ∉ S) : RdInts k w' a xs := by
  intro hx
  obtain ⟨ad, h1, h2, h3⟩ := h hx
  refine ⟨ad, h1, Nat.lt_of_lt_of_le h2 hm.size, fun j x hj => ?_⟩
  rw [World.cell?_of_block (w := w) (hm.block _ (by rw [add_block]; exact h2) (by rw [add_block]; exact hs ad h1))]
  exact h3 j x hj

theorem RdInts.mod' {k : IntKind} {w w' : World} {S : List Nat} {a : Option Addr} {xs : List Int} (h : RdInts k w a xs) (hm : Mod S w w') (hs : ∀ s ∈ S, w.heap.size ≤ s) : RdInts k w' a xs := by
  intro hx
  obtain ⟨ad, h1, h2, h3⟩ := h hx
  refine ⟨ad, h1, Nat.lt_of_lt_of_le h2 hm.size, fun j x hj => ?_⟩
  rw [World.cell?_of_block (w := w) (hm.block _ (by rw [add_block]; exact h2) (by rw [add_block]; intro hh; have := hs _ hh; omega))]
  exact h3 j x hj

/-- True, and nothing that was there has turned. -/
def TruePost (w : World) (e : Ending) (w' : World) : Prop := e = .returned (.bool true) ∧ Mod [] w w'

end Go.Proofs.YtpbamamplmbgjaaGreatDoor
