/-
  Words of this seat's own: a frame by a list of blocks; a row of cells that is read; lots in memory. Nothing of the program stands here.
  The walks of package band: bit, With, Has, Less; of bits.TrailingZeros64; band.First, nodes.
  Rows of the call's own that grow by append; numbers.
  A range over a function whose iterator keeps a state of its own: by the walk's lowest laws.
  A range over a function whose iterator keeps a state of its own: by the walk's lowest laws. band.List.
  The walks of package lot: New, Next, Left, Below.
-/
import Derived.Test.YtaaaiggbnkeblaaGreatDoorRows
import Derived.WalkKit
import Derived.WalkSpells
import Derived.WalkLawsBesides
import Derived.Lib.Hide
import Derived.Deep.QuietTactic
import Derived.BigQuiet
import Derived.Deep.OwnRows
import Derived.Laws.CopyOwn
import Derived.Maps.AppendAt
import Derived.Laws.AppendOwnNone
import Derived.Deep.AppendLies
import Derived.RangeFuncBox
import Derived.RangeFuncCalls
import Derived.RangeFuncLeaves
import Derived.Shelf.Abstract
import Derived.OwnWalkIn
import Derived.TacticsInMore
import Derived.LoopNIn
import Derived.LoopIn
namespace Go.Proofs.YtaaaiggbnkeblaaGreatDoor
set_option linter.unusedSimpArgs false
set_option linter.unusedVariables false
open Go.RowKit

/-- Of the blocks that were there, those outside S are as they were. -/
structure Mod (S : List Nat) (w w' : World) : Prop where
  os : w'.os = w.os
  tape : w'.tape = w.tape
  output : w'.output = w.output
  size : w.heap.size ≤ w'.heap.size
  block : ∀ k, k < w.heap.size → k ∉ S → w'.heap[k]? = w.heap[k]?

theorem Mod.refl (S : List Nat) (w : World) : Mod S w w := ⟨rfl, rfl, rfl, Nat.le_refl _, fun _ _ _ => rfl⟩
theorem Mod.trans {S : List Nat} {a b c : World} (h : Mod S a b) (k : Mod S b c) : Mod S a c :=
  ⟨k.os.trans h.os, k.tape.trans h.tape, k.output.trans h.output, Nat.le_trans h.size k.size, fun i hi hs => (k.block i (Nat.lt_of_lt_of_le hi h.size) hs).trans (h.block i hi hs)⟩
theorem Mod.step {S T : List Nat} {a b c : World} (h : Mod S a b) (k : Mod T b c) (ht : ∀ t ∈ T, t ∈ S ∨ a.heap.size ≤ t) : Mod S a c :=
  ⟨k.os.trans h.os, k.tape.trans h.tape, k.output.trans h.output, Nat.le_trans h.size k.size, fun i hi hs => (k.block i (Nat.lt_of_lt_of_le hi h.size) (fun hx => (ht i hx).elim hs (fun hlt => by omega))).trans (h.block i hi hs)⟩
theorem Mod.drewN {S : List Nat} {a w : World} (h : Mod S a w) (n : Nat) : Mod S a (w.drewN n) := ⟨h.os, h.tape, h.output, h.size, h.block⟩
theorem Mod.mono {S T : List Nat} {a b : World} (h : Mod S a b) (hs : ∀ k, k < a.heap.size → k ∈ S → k ∈ T) : Mod T a b :=
  ⟨h.os, h.tape, h.output, h.size, fun i hi ht => h.block i hi (fun hx => ht (hs i hi hx))⟩
theorem Mod.alloc {S : List Nat} {a w : World} (h : Mod S a w) (o : Obj) : Mod S a (w.alloc o) :=
  h.trans ⟨rfl, rfl, rfl, by simp, fun k hk _ => Below.heap_alloc _ _ _ hk⟩
theorem Mod.drew {S : List Nat} {a w : World} (h : Mod S a w) : Mod S a w.drew := ⟨h.os, h.tape, h.output, h.size, h.block⟩
theorem Mod.setCell {S : List Nat} {a w : World} (h : Mod S a w) {p : Addr} (hp : p.block ∈ S ∨ a.heap.size ≤ p.block) (u : Value) : Mod S a (w.setCell p u) :=
  ⟨h.os, h.tape, h.output, by simpa [World.setCell] using h.size, fun k hk hs => (Below.heap_setCell _ _ _ _ (by
    rintro rfl
    rcases hp with hp | hp
    · exact hs hp
    · omega)).trans (h.block k hk hs)⟩
theorem Mod.grown {S : List Nat} {a w w' : World} (h : Mod S a w) {g : Nat} (hg : w.grownBy w' (some g)) (hs : g ∈ S ∨ a.heap.size ≤ g) : Mod S a w' :=
  ⟨hg.os.trans h.os, hg.tape.trans h.tape, hg.output.trans h.output, Nat.le_trans h.size hg.size, fun k hk hks => (hg.block k (Nat.lt_of_lt_of_le hk h.size) (by
    rintro ⟨⟩
    rcases hs with hs | hs
    · exact hks hs
    · omega)).trans (h.block k hk hks)⟩
theorem heap_new (w : World) (o : Obj) : (w.alloc o).heap[w.heap.size]? = some o := by
  show (w.heap.push o)[w.heap.size]? = _
  simp
theorem heap_at (w : World) (o : Obj) (n : Nat) (h : n = w.heap.size) : (w.alloc o).heap[n]? = some o := by
  subst h
  exact heap_new w o
theorem heap_two (w : World) (o1 o2 : Obj) : ((w.alloc o1).alloc o2).heap[w.heap.size]? = some o1 := by
  rw [Below.heap_alloc _ _ _ (by simp)]
  exact heap_new w o1
theorem heap_top (w : World) (o1 o2 : Obj) : ((w.alloc o1).alloc o2).heap[w.heap.size + 1]? = some o2 := by
  have h := heap_new (w.alloc o1) o2
  simpa using h
theorem Mod.below {a b : World} (h : Mod [] a b) : Below a.heap.size a b := ⟨h.os, h.tape, h.output, h.size, fun k hk => h.block k hk (by simp)⟩
theorem Mod.of_below {S : List Nat} {a b : World} (h : Below a.heap.size a b) : Mod S a b := ⟨h.os, h.tape, h.output, h.size, fun k hk _ => h.block k hk⟩
theorem Mod.cell {S : List Nat} {a b : World} (h : Mod S a b) {p : Addr} (hp : p.block < a.heap.size) (hs : p.block ∉ S) : b.cell? p = a.cell? p := World.cell?_of_block (w := a) (h.block p.block hp hs)
theorem Mod.frozen {S : List Nat} {a b : World} (h : Mod S a b) {p : Addr} (hp : p.block < a.heap.size) (hs : p.block ∉ S) : b.frozen? p = a.frozen? p := World.frozen?_of_block (w := a) (h.block p.block hp hs)

theorem cell_set_same {w : World} {a : Addr} {v u : Value} (h : w.cell? a = some u) : (w.setCell a v).cell? a = some v := World.cell?_setCell_same' _ _ _ (by rw [h]; rfl)
theorem cell_set_far (w : World) (p a : Addr) (v : Value) (h : p.block ≠ a.block) : (w.setCell p v).cell? a = w.cell? a :=
  World.cell?_of_block (w := w) (Below.heap_setCell _ _ _ _ (Ne.symm h))

theorem cell_set_off (w : World) (p a : Addr) (v : Value) (h : p.off ≠ a.off) : (w.setCell p v).cell? a = w.cell? a :=
  World.cell?_setCell_other _ _ _ _ (fun e => h (by rw [e]))

theorem cell_in {w : World} {g j : Nat} {cs : Array Value} {t : TypeId} {fz : Nat × Nat} {v : Value} (h : w.heap[g]? = some (.cells cs t fz)) (hj : cs[j]? = some v) : w.cell? ⟨g, j, none⟩ = some v := by
  simp only [World.cell?, h]
  simpa using hj
theorem free_in {w : World} {g j : Nat} {cs : Array Value} {t : TypeId} (h : w.heap[g]? = some (.cells cs t (0, 0))) : w.frozen? ⟨g, j, none⟩ = false := by
  simp only [World.frozen?, h]
  simp

theorem ret_int {k : IntKind} {a b : Int} (h : a = b) : Ending.returned (.int k a) = .returned (.int k b) := by rw [h]
theorem wrap_small {a : Int} (h0 : 0 ≤ a) (h1 : a ≤ 9223372036854775807) : wrap64 a = a := by unfold wrap64; omega

/-- A slice's numbers, where it has any. -/
def RdInts (k : IntKind) (w : World) (a : Option Addr) (xs : List Int) : Prop :=
  xs ≠ [] → ∃ ad, a = some ad ∧ ad.block < w.heap.size ∧ ∀ j x, xs[j]? = some x → w.cell? (ad.add j) = some (.int k x)

theorem add_block (ad : Addr) (j : Nat) : (ad.add j).block = ad.block := by unfold Addr.add; split <;> rfl
theorem add_lit (b o j : Nat) : (⟨b, o, none⟩ : Addr).add j = ⟨b, o + j, none⟩ := by
  unfold Addr.add; split
  · next h => subst h; rfl
  · rfl

theorem RdInts.alloc {k : IntKind} {w : World} {a : Option Addr} {xs : List Int} (h : RdInts k w a xs) (o : Obj) : RdInts k (w.alloc o) a xs := by
  intro hx
  obtain ⟨ad, h1, h2, h3⟩ := h hx
  refine ⟨ad, h1, by simp; omega, fun j x hj => ?_⟩
  rw [World.cell?_of_block (w := w) (Below.heap_alloc _ _ _ (by rw [add_block]; exact h2))]
  exact h3 j x hj

/-- 'copy(out, l)', out a row of the call's own as long as l. -/
theorem wpList_copy_full {P : Program} {w : World} {ops : Array Oper} {rest : List Oper} {o : Oper} {a : Act} {Q : Exit → Act → World → Prop} (hgd : o.guard = none) (d s : Operand) (dT sT : TypeId)
    (ho : o.op = .call { callee := .builtin .copy, args := #[d, s], argTypes := #[dT, sT] }) (elem : TypeId) (hu : P.underlying dT = some (.slice elem)) (hsz : (P.info? elem).map (·.size) = some 1)
    (k : IntKind) (xs : List Int) (g dCap sCap : Nat) (sp : Option Addr) (hd : a.eval d = .slice (some ⟨g, 0, none⟩) xs.length dCap) (hs : a.eval s = .slice sp xs.length sCap)
    (cur : Array Value) (t : TypeId) (hg : w.heap[g]? = some (.cells cur t (0, 0))) (hcur : cur.size = xs.length) (hsrc : RdInts k w sp xs)
    (h : ∀ w', w'.heap[g]? = some (.cells (xs.map (Value.int k)).toArray t (0, 0)) → w.grownBy w' (some g) → w'.heap.size = w.heap.size → wpList P ops Q rest (a.put o.dst (goInt xs.length)) w') : wpList P ops Q (o :: rest) a w := by
  by_cases h0 : xs = []
  · subst h0
    refine wpList_copy_nothing hgd d s dT sT ho elem hu hsz _ sp 0 dCap 0 sCap hd hs rfl ?_
    refine h w ?_ (World.grownBy.refl w _) rfl
    rw [hg, Array.eq_empty_of_size_eq_zero hcur]
    rfl
  · obtain ⟨ad, rfl, _, h3⟩ := hsrc h0
    refine wpList_copy_own hgd d s dT sT ho elem hu hsz g 0 xs.length dCap ad xs.length sCap hd hs cur t hg (xs.map (Value.int k)) (by simp) ?_ (by simp; omega) (ints_oneCell _ _) ?_
    · intro j v hj
      simp only [List.getElem?_map, Option.map_eq_some_iff] at hj
      obtain ⟨x, hx, rfl⟩ := hj
      exact h3 j x hx
    · have hr := setRow_heap w g cur (xs.map (Value.int k)).toArray t (0, 0) hg
      have hd0 : cur.toList.drop xs.length = [] := List.drop_eq_nil_of_le (by simp; omega)
      simp only [List.take_zero, List.nil_append, Nat.zero_add, List.length_map, hd0, List.append_nil]
      exact h _ hr ⟨rfl, rfl, rfl, by simp [World.setRow], fun k _ hk => setRow_other w g k _ (by simpa using hk)⟩ (by simp [World.setRow])

theorem RdInts.of_row {k : IntKind} {w : World} {g : Nat} {xs : List Int} {t : TypeId} (h : w.heap[g]? = some (.cells (xs.map (Value.int k)).toArray t (0, 0))) : RdInts k w (some ⟨g, 0, none⟩) xs := by
  intro _
  refine ⟨_, rfl, (Array.getElem?_eq_some_iff.1 h).1, fun j x hj => ?_⟩
  rw [add_lit, Nat.zero_add]
  simp [World.cell?, h, hj]

theorem RdInts.mod {k : IntKind} {w w' : World} {S : List Nat} {a : Option Addr} {xs : List Int} (h : RdInts k w a xs) (hm : Mod S w w') (hs : ∀ ad, a = some ad → ad.block ∉ S) : RdInts k w' a xs := by
  intro hx
  obtain ⟨ad, h1, h2, h3⟩ := h hx
  refine ⟨ad, h1, Nat.lt_of_lt_of_le h2 hm.size, fun j x hj => ?_⟩
  rw [World.cell?_of_block (w := w) (hm.block _ (by rw [add_block]; exact h2) (by rw [add_block]; exact hs ad h1))]
  exact h3 j x hj

theorem RdInts.mod' {k : IntKind} {w w' : World} {S : List Nat} {a : Option Addr} {xs : List Int} (h : RdInts k w a xs) (hm : Mod S w w') (hs : ∀ s ∈ S, w.heap.size ≤ s) : RdInts k w' a xs := by
  intro hx
  obtain ⟨ad, h1, h2, h3⟩ := h hx
  refine ⟨ad, h1, Nat.lt_of_lt_of_le h2 hm.size, fun j x hj => ?_⟩
  rw [World.cell?_of_block (w := w) (hm.block _ (by rw [add_block]; exact h2) (by rw [add_block]; intro hh; have := hs _ hh; omega))]
  exact h3 j x hj

/-- True, and nothing that was there has turned. -/
def TruePost (w : World) (e : Ending) (w' : World) : Prop := e = .returned (.bool true) ∧ Mod [] w w'

end Go.Proofs.YtaaaiggbnkeblaaGreatDoor

namespace Go.Proofs.YtaaaiggbnkeblaaGreatDoor
set_option linter.unusedSimpArgs false
set_option linter.unusedVariables false
open Go.RowKit

set_option maxHeartbeats 400000 in
theorem bit_is (n : Nat) (hn : n < 64) (w : World) : Calls Tryz.prog 66 #[.int .i64 n] w fun e w' => e = .returned (.int .u64 (2 ^ n)) ∧ w = w' := by
  have hp : IntKind.u64.wrap (2 ^ n : Int) = 2 ^ n := by
    have h1 : (2 : Int) ^ n ≤ 2 ^ 63 := by exact_mod_cast Nat.pow_le_pow_right (n := 2) (by omega) (show n ≤ 63 by omega)
    have h0 : (0 : Int) ≤ 2 ^ n := Int.pow_nonneg (by omega)
    show (2 : Int) ^ n % 18446744073709551616 = 2 ^ n
    omega
  have HP := Lib.hid hp
  clear hp
  go_enter Tryz.func66, Tryz.ntmps66
  go_wp2_with fail
  go_ret
  exact ⟨by simpa using HP.out, rfl⟩

set_option maxHeartbeats 400000 in
theorem with_is (b r : Int) (n : Nat) (hn : n < 64) (hr : bits .or .u64 b (2 ^ n) = r) (w : World) : Calls Tryz.prog 33 #[.int .u64 b, .int .i64 n] w fun e w' => e = .returned (.int .u64 r) ∧ w = w' := by
  have HR := Lib.hid hr
  clear hr
  go_enter Tryz.func33, Tryz.ntmps33
  go_wp2_with fail
  refine (bit_is n hn _).mono ?_
  rintro e w1 ⟨rfl, rfl⟩
  go_wp2_with fail
  go_ret
  exact ⟨by rw [← HR.out]; rfl, rfl⟩

set_option maxHeartbeats 400000 in
theorem has_is (b : Int) (n : Nat) (x : Bool) (hn : n < 64) (hx : (bits .and .u64 b (2 ^ n) != 0) = x) (w : World) : Calls Tryz.prog 20 #[.int .u64 b, .int .i64 n] w fun e w' => e = .returned (.bool x) ∧ w = w' := by
  have HX := Lib.hid hx
  clear hx
  go_enter Tryz.func20, Tryz.ntmps20
  go_wp2_with fail
  refine (bit_is n hn _).mono ?_
  rintro e w1 ⟨rfl, rfl⟩
  go_wp2_with fail
  go_ret
  exact ⟨by rw [← HX.out]; rfl, rfl⟩

set_option maxHeartbeats 400000 in
theorem less_is (b r : Int) (n : Nat) (hn : n < 64) (hr : bits .andNot .u64 b (2 ^ n) = r) (w : World) : Calls Tryz.prog 105 #[.int .u64 b, .int .i64 n] w fun e w' => e = .returned (.int .u64 r) ∧ w = w' := by
  have HR := Lib.hid hr
  clear hr
  go_enter Tryz.func105, Tryz.ntmps105
  go_wp2_with fail
  refine (bit_is n hn _).mono ?_
  rintro e w1 ⟨rfl, rfl⟩
  go_wp2_with fail
  go_ret
  exact ⟨by rw [← HR.out]; rfl, rfl⟩

def deB : List Nat := [0, 1, 56, 2, 57, 49, 28, 3, 61, 58, 42, 50, 38, 29, 17, 4, 62, 47, 59, 36, 45, 43, 51, 22, 53, 39, 33, 30, 24, 18, 12, 5, 63, 55, 48, 27, 60, 41, 37, 16, 46, 35, 44, 21, 52, 32, 23, 11, 54, 26, 40, 15, 34, 20, 31, 10, 25, 14, 19, 9, 13, 8, 7, 6]

/-- The table of package bits lies at the block of its number. -/
def Tab (w : World) : Prop := 1 < w.heap.size ∧ ∀ j x, deB[j]? = some x → w.cell? ⟨1, j, none⟩ = some (.int .u8 (x : Nat))
theorem Tab.mod {S : List Nat} {w w' : World} (h : Tab w) (hm : Mod S w w') (hs : 1 ∉ S) : Tab w' :=
  ⟨Nat.lt_of_lt_of_le h.1 hm.size, fun j x hj => (hm.cell h.1 hs).trans (h.2 j x hj)⟩

theorem deB_at (k : Nat) (h : k < 64) : deB[((IntKind.u64.wrap (2 ^ k * 285870213051353865)) / 288230376151711744).toNat]? = some k := by
  have h1 : ∀ k : Fin 64, deB[((IntKind.u64.wrap (2 ^ k.val * 285870213051353865)) / 288230376151711744).toNat]? = some k.val := by decide +kernel
  exact h1 ⟨k, h⟩

set_option maxHeartbeats 400000 in
theorem tz_is (x : Int) (k : Nat) (hx : (x == 0) = false) (hk : bits .and .u64 x (IntKind.u64.wrap (-x)) = 2 ^ k) (hk64 : k < 64) (w : World) (ht : Tab w) :
    Calls Tryz.prog 153 #[.int .u64 x] w fun e w' => e = .returned (.int .i64 k) ∧ w = w' := by
  have hc := ht.2 _ _ (deB_at k hk64)
  have hb : 0 ≤ IntKind.u64.wrap (2 ^ k * 285870213051353865) / 288230376151711744 ∧ IntKind.u64.wrap (2 ^ k * 285870213051353865) / 288230376151711744 < 64 := by
    show 0 ≤ (2 ^ k * 285870213051353865 : Int) % 18446744073709551616 / 288230376151711744 ∧ (2 ^ k * 285870213051353865 : Int) % 18446744073709551616 / 288230376151711744 < 64
    omega
  clear ht
  go_enter Tryz.func153, Tryz.ntmps153
  go_wp2_with fail
  go_ret
  exact ⟨rfl, rfl⟩

theorem first_none (w : World) : Calls Tryz.prog 157 #[.int .u64 0] w fun e w' => e = .returned (.tuple #[.int .i64 0, .bool false]) ∧ w = w' := by
  go_enter Tryz.func157, Tryz.ntmps157
  go_wp2_with fail
  go_ret2
  exact ⟨rfl, rfl⟩

theorem first_is (x : Int) (k : Nat) (hx : (x == 0) = false) (hk : bits .and .u64 x (IntKind.u64.wrap (-x)) = 2 ^ k) (hk64 : k < 64) (w : World) (ht : Tab w) :
    Calls Tryz.prog 157 #[.int .u64 x] w fun e w' => e = .returned (.tuple #[.int .i64 k, .bool true]) ∧ w = w' := by
  have HTZ := Lib.hid (tz_is x k hx hk hk64 w ht)
  clear hk ht
  go_enter Tryz.func157, Tryz.ntmps157
  go_wp2_with fail
  refine HTZ.out.mono ?_
  rintro e w1 ⟨rfl, rfl⟩
  go_wp2_with fail
  go_ret2
  exact ⟨rfl, rfl⟩

theorem nodes_is (b : Int) (w : World) : Calls Tryz.prog 118 #[.int .u64 b] w fun e w' =>
    e = .returned (.func (.func 152) #[] #[.pointer (some ⟨w.heap.size, 0, none⟩)]) ∧ w.alloc (.cells #[.int .u64 b] 23) = w' := by
  have hmf : ∀ fn first cap w, (Instr.makeFunc fn first cap).run Tryz.prog w = .ok (.func fn first cap) w := fun _ _ _ _ => rfl
  go_enter Tryz.func118, Tryz.ntmps118
  go_wp2_with fail
  go_ret
  exact ⟨rfl, rfl⟩

end Go.Proofs.YtaaaiggbnkeblaaGreatDoor

namespace Go.Proofs.YtaaaiggbnkeblaaGreatDoor
set_option linter.unusedSimpArgs false
set_option linter.unusedVariables false
open Go.RowKit

/-- A row of numbers of the call's own, from block B on. -/
def Owned (k : IntKind) (e : TypeId) (w : World) (B : Nat) (v : Value) (xs : List Int) : Prop := w.ownsRow B e 1 v xs.length (xs.map (Value.int k))

theorem Owned.shape {k : IntKind} {e : TypeId} {w : World} {B : Nat} {v : Value} {xs : List Int} (h : Owned k e w B v xs) :
    ∃ a c, v = .slice a xs.length c ∧ RdInts k w a xs ∧ (a = none → c = 0) ∧ xs.length ≤ c ∧ c ≤ maxLen ∧ ∀ ad, a = some ad → ∃ g, ad = ⟨g, 0, none⟩ ∧ B ≤ g := by
  obtain ⟨hl, h⟩ := h
  rcases h with ⟨rfl, h0⟩ | ⟨g, cap, cur, rfl, hB, hg, h1, h2, h3, h4⟩
  · have : xs = [] := List.eq_nil_of_length_eq_zero h0
    subst this
    exact ⟨none, 0, rfl, fun h => absurd rfl h, fun _ => rfl, Nat.le_refl _, by simp, fun ad h => by cases h⟩
  · refine ⟨some ⟨g, 0, none⟩, cap, rfl, fun _ => ⟨_, rfl, (Array.getElem?_eq_some_iff.1 hg).1, fun j x hj => ?_⟩, fun h => (by cases h), h1, h2, fun ad h => ⟨g, by cases h; rfl, hB⟩⟩
    rw [add_lit, Nat.zero_add]
    have e1 : (cur.toList.take (xs.length * 1))[j]? = some (Value.int k x) := by rw [h4]; simp [hj]
    have hjl : j < xs.length := (List.getElem?_eq_some_iff.1 hj).1
    rw [List.getElem?_take_of_lt (by omega)] at e1
    simp only [World.cell?, hg]
    simpa using e1

theorem Owned.mod {k : IntKind} {e : TypeId} {w w' : World} {B : Nat} {v : Value} {xs : List Int} {S : List Nat} (h : Owned k e w B v xs) (hm : Mod S w w') (hs : ∀ b, v.ownBlock = some b → b ∉ S) : Owned k e w' B v xs := by
  obtain ⟨hl, h⟩ := h
  refine ⟨hl, ?_⟩
  rcases h with ⟨rfl, h0⟩ | ⟨g, cap, cur, rfl, hB, hg, h1, h2, h3, h4⟩
  · exact .inl ⟨rfl, h0⟩
  · exact .inr ⟨g, cap, cur, rfl, hB, (hm.block g (Array.getElem?_eq_some_iff.1 hg).1 (hs g rfl)).trans hg, h1, h2, h3, h4⟩

theorem Owned.nil (k : IntKind) (e : TypeId) (w : World) (B : Nat) : Owned k e w B (.slice none 0 0) [] := ⟨rfl, .inl ⟨rfl, rfl⟩⟩

theorem Owned.empty (k : IntKind) {e : TypeId} {w : World} {B g : Nat} (h : w.heap[g]? = some (.cells #[] e (0, 0))) (hB : B ≤ g) : Owned k e w B (.slice (some ⟨g, 0, none⟩) 0 0) [] :=
  ⟨rfl, .inr ⟨g, 0, #[], rfl, hB, h, Nat.le_refl _, by simp, rfl, rfl⟩⟩

theorem Owned.own_ge {k : IntKind} {e : TypeId} {w : World} {B : Nat} {v : Value} {xs : List Int} (h : Owned k e w B v xs) : ∀ b, v.ownBlock = some b → B ≤ b ∧ b < w.heap.size := by
  obtain ⟨hl, h⟩ := h
  intro b hb
  rcases h with ⟨rfl, h0⟩ | ⟨g, cap, cur, rfl, hB, hg, h1, h2, h3, h4⟩
  · cases hb
  · obtain rfl : g = b := by simpa [Value.ownBlock] using hb
    exact ⟨hB, (Array.getElem?_eq_some_iff.1 hg).1⟩

/-- 'append(out, l...)': out the call's own, l whatever slice of numbers. -/
theorem wpList_append_rd {P : Program} {w : World} {ops : Array Oper} {rest : List Oper} {o : Oper} {a : Act} {Q : Exit → Act → World → Prop} (hgd : o.guard = none) (s x : Operand) (t : TypeId)
    (ho : o.op = .call { callee := .builtin .append, args := #[s, x], argTypes := #[t, t] })
    (B : Nat) (e : TypeId) (k : IntKind) (bytes : Nat) (ht : P.underlying t = some (.slice e)) (hinfo : (P.info? e).map (fun i => (i.zero, i.size, i.bytes)) = some (some (.int k 0), 1, bytes))
    (v : Value) (xs : List Int) (hs : a.eval s = v) (hown : Owned k e w B v xs) (sp : Option Addr) (c : Nat) (ys : List Int) (hx : a.eval x = .slice sp ys.length c) (hr : RdInts k w sp ys) (hnc : sp = none → c = 0)
    (h63 : xs.length + ys.length ≤ maxLen) (hbytes : (xs.length + ys.length) * bytes ≤ 140737488355328) (hB : B ≤ w.heap.size)
    (h : ∀ v' w', Owned k e w' B v' (xs ++ ys) → w.grownBy w' v.ownBlock → (v'.ownBlock = v.ownBlock ∨ v'.ownBlock = some w.heap.size) → wpList P ops Q rest (a.put o.dst v') w') :
    wpList P ops Q (o :: rest) a w := by
  obtain ⟨i, hi, hz, hsz, hby⟩ := info_parts hinfo
  cases sp with
  | none =>
    obtain rfl := hnc rfl
    have hys : ys = [] := by
      by_cases hy : ys = []
      · exact hy
      · obtain ⟨ad, h, _⟩ := hr hy
        cases h
    subst hys
    refine wpList_append_own_none hgd s x t ho B e i 1 ht hi v xs.length _ hs hown hx ?_
    exact h v w (by simpa using hown) (World.grownBy.refl w _) (.inl rfl)
  | some ad =>
    refine wpList_append_own_at w hgd s x t ho B e i (.int k 0) 1 bytes ht hi hz hsz hby rfl (by decide) v xs.length _ hs hown ad ys.length c (ys.map (Value.int k)) hx (by simp) ?_ (ints_oneCell _ _) h63 hbytes hB ?_
    · intro j u hj
      simp only [List.getElem?_map, Option.map_eq_some_iff] at hj
      obtain ⟨y, hy, rfl⟩ := hj
      obtain ⟨ad', he, _, h3⟩ := hr (by intro h; rw [h] at hy; simp at hy)
      cases he
      exact h3 j y hy
    · intro v' w' h1 h2 _ h4
      exact h v' w' (by unfold Owned; simpa using h1) h2 h4

theorem row_mod {X : List Nat} {a b : World} (h : Mod X a b) {g : Nat} {o : Obj} (hg : a.heap[g]? = some o) (hs : g ∉ X) : b.heap[g]? = some o := (h.block g (Array.getElem?_eq_some_iff.1 hg).1 hs).trans hg
theorem Mod.grown_none {S : List Nat} {a w w' : World} (h : Mod S a w) (hg : w.grownBy w' none) : Mod S a w' :=
  ⟨hg.os.trans h.os, hg.tape.trans h.tape, hg.output.trans h.output, Nat.le_trans h.size hg.size, fun k hk hks => (hg.block k (Nat.lt_of_lt_of_le hk h.size) (by simp)).trans (h.block k hk hks)⟩
theorem ownsRow_mod {w w' : World} {B n size : Nat} {e : TypeId} {v : Value} {xs : List Value} {S : List Nat} (h : w.ownsRow B e size v n xs) (hm : Mod S w w') (hs : ∀ b, v.ownBlock = some b → b ∉ S) : w'.ownsRow B e size v n xs := by
  obtain ⟨hl, h⟩ := h
  refine ⟨hl, ?_⟩
  rcases h with ⟨rfl, h0⟩ | ⟨g, cap, cur, rfl, hB, hg, h1, h2, h3, h4⟩
  · exact .inl ⟨rfl, h0⟩
  · exact .inr ⟨g, cap, cur, rfl, hB, (hm.block g (Array.getElem?_eq_some_iff.1 hg).1 (hs g rfl)).trans hg, h1, h2, h3, h4⟩
theorem ownsRow_ge {w : World} {B n size : Nat} {e : TypeId} {v : Value} {xs : List Value} (h : w.ownsRow B e size v n xs) : ∀ b, v.ownBlock = some b → B ≤ b ∧ b < w.heap.size := by
  obtain ⟨hl, h⟩ := h
  intro b hb
  rcases h with ⟨rfl, h0⟩ | ⟨g, cap, cur, rfl, hB, hg, h1, h2, h3, h4⟩
  · cases hb
  · obtain rfl : g = b := by simpa [Value.ownBlock] using hb
    exact ⟨hB, (Array.getElem?_eq_some_iff.1 hg).1⟩
theorem ownsRow_cells {w : World} {B size g n cap : Nat} {e : TypeId} {xs : List Value} (h : w.ownsRow B e size (.slice (some ⟨g, 0, none⟩) n cap) n xs) : ∀ j v, xs[j]? = some v → w.cell? ⟨g, j, none⟩ = some v := by
  obtain ⟨hl, h⟩ := h
  rcases h with ⟨h, _⟩ | ⟨g', cap', cur, he, hB, hg, h1, h2, h3, h4⟩
  · cases h
  · cases he
    intro j v hj
    rw [← h4, List.getElem?_take] at hj
    split at hj
    · exact cell_in hg (by simpa using hj)
    · cases hj
theorem Mod.grownRow {S : List Nat} {a w w' : World} {r : Option Nat} (h : Mod S a w) (hg : w.grownBy w' r) (hs : ∀ b, r = some b → b ∈ S ∨ a.heap.size ≤ b) : Mod S a w' :=
  ⟨hg.os.trans h.os, hg.tape.trans h.tape, hg.output.trans h.output, Nat.le_trans h.size hg.size, fun k hk hks => (hg.block k (Nat.lt_of_lt_of_le hk h.size) (fun e => by
    rcases hs k e.symm with h1 | h1
    · exact hks h1
    · omega)).trans (h.block k hk hks)⟩
/-- Behind an append to a row of one's own: 'out = append(out, ..)' at the slice v. -/
theorem Mod.grownOwn {a w w' : World} {v : Value} (h : Mod [] a w) (hg : w.grownBy w' v.ownBlock) : Mod v.ownBlock.toList a w' :=
  (h.mono (by simp)).grownRow hg (fun b hb => .inl (by simp [hb]))

end Go.Proofs.YtaaaiggbnkeblaaGreatDoor

namespace Go.Proofs.YtaaaiggbnkeblaaGreatDoor
set_option linter.unusedSimpArgs false
set_option linter.unusedVariables false
open Go.RowKit

theorem range_e1 {P : Program} {g : Operand} {a : Act} {W1 : World} {gf l : Nat} {lb : Array Value} (hg : a.eval g = .func (.func gf) #[] lb) : (resolve a.eval (rangeCall g l) 0).run P W1 = .ok { target := .fn (.func gf) lb, args := #[.func (.yield l) #[] #[]] } W1 := by
  simp only [resolve, hg]
  simp [go_sem]
theorem range_e2 {P : Program} {W1 : World} {gf l : Nat} {lb : Array Value} (eg : ∀ args w, (callFunc gf args).run P w = .ok (.enter gf args) w) : (invoke (.fn (.func gf) lb) #[.func (.yield l) #[] #[]]).run P W1 = .ok (.enter gf (#[.func (.yield l) #[] #[]] ++ lb)) W1 := by
  simp [invoke, go_sem, eg]
theorem range_e3 {F : Fence} {P : Program} {W1 : World} {gf l : Nat} {lb : Array Value} (hFg : F.fn gf) : ∀ f', Target.leads P W1 (.fn (.func gf) lb) #[.func (.yield l) #[] #[]] = some f' → F.fn f' := by
  intro f' hf'
  simp [Target.leads] at hf'
  subst hf'
  exact hFg

theorem range_step {F : Fence} {n : Nat} {P : Program} {g : Operand} {ps : Array Tmp} {assign body : Code} {Q : Exit → Act → World → Prop} {a : Act} {w W1 : World} (h1 : 1 ≤ n) {gf : Nat} {lb : Array Value}
    (hg : a.eval g = .func (.func gf) #[] lb) (hFg : F.fn gf) (eg : ∀ args w, (callFunc gf args).run P w = .ok (.enter gf args) w) {fn : FuncId} {l : Nat} {d : Deferred}
    (he : (Instr.enterLoop fn a.tmps ps assign body F.round).run P w = .ok (l, [d]) W1) (hc : CallsIn F (n - 1) P gf (#[.func (.yield l) #[] #[]] ++ lb) W1 (rangePost F n P l Q { a with defers := [d] ++ a.defers })) :
    ∃ (l : Nat) (mark : List Deferred) (w₁ : World) (d : Deferred) (w₁' : World) (f : FuncId) (args : Array Value) (w₂ : World),
      (Instr.enterLoop fn a.tmps ps assign body F.round).run P w = .ok (l, mark) w₁ ∧
      (resolve a.eval (rangeCall g l) 0).run P w₁ = .ok d w₁' ∧
      (∀ f', Target.leads P w₁' d.target d.args = some f' → F.fn f') ∧
      (invoke d.target d.args).run P w₁' = .ok (.enter f args) w₂ ∧
      (F.depth.isSome = true → 1 ≤ n) ∧
      CallsIn F (n - 1) P f args w₂ (rangePost F n P l Q { a with defers := mark ++ a.defers }) := by
  refine ⟨l, [d], W1, { target := .fn (.func gf) lb, args := #[.func (.yield l) #[] #[]] }, W1, gf, #[.func (.yield l) #[] #[]] ++ lb, W1, ?_, ?_, ?_, ?_, ?_, ?_⟩
  · exact he
  · exact range_e1 hg
  · exact range_e3 hFg
  · dsimp only
    exact range_e2 eg
  · exact fun _ => h1
  · exact hc

/-- The statement, where its record and the block of the rounds' deferred calls are laid: what is left is the iterator's one call. -/
theorem range_open {F : Fence} {n : Nat} {P : Program} {g : Operand} {ps : Array Tmp} {assign body : Code} {Q : Exit → Act → World → Prop} {a : Act} {w : World}
    (hro : F.round = none) (h1 : 1 ≤ n) {gf : Nat} {lb : Array Value} (hg : a.eval g = .func (.func gf) #[] lb) (hFg : F.fn gf) (eg : ∀ args w, (callFunc gf args).run P w = .ok (.enter gf args) w)
    (h : ∀ (fn : FuncId) (rec : LoopState → Option Code → Loop), F.fn fn → rec = (fun st pe => { state := st, pending := pe, fn, tmps := a.tmps, params := ps, assign, body, defers := w.heap.size }) →
      CallsIn F (n - 1) P gf (#[.func (.yield (w.heap.size + 1)) #[] #[]] ++ lb) ((w.alloc (.deferred (some []))).alloc (.loop (rec .ready none)))
        (rangePost F n P (w.heap.size + 1) Q { a with defers := [{ target := .collected w.heap.size, args := #[] }] ++ a.defers })) :
    (Code.rangeFunc g ps assign body).wpIn F n P Q a w := by
  refine wpIn_rangeFunc fun fn hfn => ?_
  exact range_step h1 hg hFg eg (by rw [hro]; exact run_enterLoop_outer fn a.tmps ps assign body) (h fn (fun st pe => { state := st, pending := pe, fn, tmps := a.tmps, params := ps, assign, body, defers := w.heap.size }) hfn rfl)

/-- One round that goes on: its assignment, its body from where the record is busy; the record is ready behind it. -/
theorem round_open {F : Fence} {m : Nat} {P : Program} {l : Nat} {W : World} {rec : LoopState → Option Code → Loop} {fn : FuncId} {tm : Array Value} {ps : Array Tmp} {assign body : Code} {D : Nat} {args : Array Value} {R : Ending → World → Prop} (hF : F.fn fn)
    (hrec : rec = fun st pe => { state := st, pending := pe, fn, tmps := tm, params := ps, assign, body, defers := D }) (hl : W.heap[l]? = some (.loop (rec .ready none))) (hsz : args.size = ps.size) (a₁ : Act)
    (hassign : ∀ (K : Act → World → Prop), K a₁ W → assign.wpIn (F.inRound l) m P (Exit.then K (fun _ _ _ => False)) { tmps := (ps.zip args).foldl (fun t (p, v) => t.setIfInBounds p v) tm, defers := [] } W)
    (hbody : body.wpIn (F.inRound l) m P (fun e _ W3 => e = .normal ∧ W3.heap[l]? = some (.loop { rec .ready none with state := .busy }) ∧ R (.returned (.bool true)) (W3.putObj l (.loop (rec .ready none)))) a₁ (W.putObj l (.loop { rec .ready none with state := .busy }))) :
    YieldAt F m P l args W R := by
  have hy := run_yield (P := P) (args := args) hl (by rw [hrec]; exact hsz)
  rw [hrec] at hy
  refine ⟨fn, _, assign, body, hy, roundIn_of_wpIn hF (hassign _ ⟨_, run_beginRound hl (by rw [hrec]), ?_⟩)⟩
  refine wpIn_mono hbody ?_
  rintro e a3 W3 ⟨rfl, hl3, hR⟩
  have := run_endRound (P := P) none hl3
  refine ⟨_, _, this, ?_⟩
  rw [hrec] at hR ⊢
  simpa using hR

end Go.Proofs.YtaaaiggbnkeblaaGreatDoor

namespace Go.Proofs.YtaaaiggbnkeblaaGreatDoor
set_option linter.unusedSimpArgs false
set_option linter.unusedVariables false
open Go.RowKit Go.Shelf
attribute [local go_sem] Oper.semAt_some

/-- The bits of a band, lowest first. -/
inductive Bits : Int → List Int → Prop
  | nil : Bits 0 []
  | cons {x x' : Int} {k : Nat} {ks : List Int} (h0 : (x == 0) = false) (h1 : bits .and .u64 x (IntKind.u64.wrap (-x)) = 2 ^ k) (h2 : k < 64) (h3 : bits .and .u64 x (IntKind.u64.wrap (x - 1)) = x') (h4 : 0 ≤ x') (h5 : x' < x) (h6 : Bits x' ks) : Bits x ((k : Int) :: ks)

theorem grown_from {S : List Nat} {a w w' : World} {r : Option Nat} (h : Mod S a w) (hg : w.grownBy w' r) (hs : ∀ b, r = some b → a.heap.size ≤ b) : Mod S a w' :=
  ⟨hg.os.trans h.os, hg.tape.trans h.tape, hg.output.trans h.output, Nat.le_trans h.size hg.size, fun k hk hks => (hg.block k (Nat.lt_of_lt_of_le hk h.size) (fun e => by
    have := hs k e.symm
    omega)).trans (h.block k hk hks)⟩

theorem results_word {P : Program} {fn : Func} {p : Tmp} {ty e : TypeId} (h : fn.results = #[.cell p ty]) (tmps : Array Value) (w : World) (a : Addr) (v : Value) (hp : tmps.getD p undef = .pointer (some a)) (hu : P.underlying ty = some (.slice e)) (hc : w.cell? a = some v) : (results fn tmps).run P w = .ok v w := by
  have hp' : tmps[p]?.getD undef = .pointer (some a) := by simpa using hp
  have hr : Sem.run P (underlying ty) w = .ok (.slice e) w := by simp [underlying, hu]
  simp [results, h, hp', asAddr, loadVar, isAgg, hr, hc, go_sem]

theorem Owned.base {k : IntKind} {e : TypeId} {w : World} {B C : Nat} {v : Value} {xs : List Int} (h : Owned k e w B v xs) (hC : C ≤ B) : Owned k e w C v xs := by
  obtain ⟨hl, h⟩ := h
  refine ⟨hl, ?_⟩
  rcases h with h | ⟨g, cap, cur, rfl, hB, hg, h1, h2, h3, h4⟩
  · exact .inl h
  · exact .inr ⟨g, cap, cur, rfl, Nat.le_trans hC hB, hg, h1, h2, h3, h4⟩

theorem Tryz.inf_int : (Tryz.prog.info? 3).map (fun i => (i.zero, i.size, i.bytes)) = some (some (.int .i64 0), 1, 8) := by kernel_rfl

def cellNat (v : Option Value) : Nat := match v with | some (.int _ n) => n.toNat | _ => 0

def BListPost (w : World) (ks : List Int) (e : Ending) (w' : World) : Prop := ∃ v, e = .returned v ∧ Owned .i64 3 w' w.heap.size v ks ∧ Mod [] w w'

set_option maxRecDepth 100000 in
set_option maxHeartbeats 4000000 in
theorem blist_in (b : Int) (ks : List Int) (hB : Bits b ks) (hl : ks.length ≤ 64) (w : World) (ht : Tab w) : CallsIn Fence.wide 3 Tryz.prog 63 #[.int .u64 b] w (BListPost w ks) := by
  refine callsIn_of_wp_marks Tryz.func63 rfl trivial ?_ rfl
  simp only [Tryz.ntmps63, List.size_toArray, List.length_cons, List.length_nil, Nat.reduceAdd, Nat.reduceSub, Array.replicate_succ, Array.replicate_zero, List.push_toArray, List.append_toArray, List.nil_append, List.cons_append]
  gi_wp2_with (refine ⟨trivial, ?_⟩; gi_at_call 118; refine (callsIn_wide.2 (nodes_is b _)).mono ?_; rintro e w' ⟨rfl, rfl⟩)
  refine range_open rfl (by omega) (gf := 152) (lb := #[.pointer (some ⟨w.heap.size + 1, 0, none⟩)]) rfl trivial (enters_of Tryz.func152 (by kernel_rfl) rfl) ?_
  intro fn rec hfn hrec
  have HREC := Lib.hid hrec
  clear hrec
  obtain ⟨W0, hW0⟩ : ∃ W0, ((((w.alloc (.cells #[.slice none 0 0] 67)).alloc (.cells #[.int .u64 b] 23)).alloc (.deferred (some []))).alloc (.loop (rec .ready none))) = W0 := ⟨_, rfl⟩
  have hs0 : W0.heap.size = w.heap.size + 1 + 1 + 1 + 1 := by rw [← hW0]; simp
  have hl0 : W0.heap[w.heap.size + 1 + 1 + 1]? = some (.loop (rec .ready none)) := by rw [← hW0]; exact heap_at _ _ _ (by simp)
  have hk0 : W0.heap[w.heap.size + 1 + 1]? = some (.deferred (some [])) := by
    rw [← hW0, Below.heap_alloc _ _ _ (by simp)]; exact heap_at _ _ _ (by simp)
  have hb0 : W0.heap[w.heap.size + 1]? = some (.cells #[.int .u64 b] 23 (0, 0)) := by
    rw [← hW0, Below.heap_alloc _ _ _ (by simp), Below.heap_alloc _ _ _ (by simp)]; exact heap_at _ _ _ (by simp)
  have hr0 : W0.heap[w.heap.size]? = some (.cells #[.slice none 0 0] 67 (0, 0)) := by
    rw [← hW0, Below.heap_alloc _ _ _ (by simp; omega), Below.heap_alloc _ _ _ (by simp; omega), Below.heap_alloc _ _ _ (by simp)]; exact heap_new _ _
  have hm0 : Mod [] w W0 := by rw [← hW0]; exact ((((Mod.refl [] w).alloc _).alloc _).alloc _).alloc _
  rw [hW0]
  have HF := Lib.hid (And.intro hs0 (And.intro hl0 (And.intro hk0 (And.intro hb0 (And.intro hr0 hm0)))))
  clear hW0 hs0 hl0 hk0 hb0 hr0 hm0
  refine callsIn_of_wp Tryz.func152 rfl trivial ?_ rfl
  simp only [Tryz.ntmps152, World.size_alloc, List.size_toArray, List.length_cons, List.length_nil, Nat.reduceAdd, Nat.reduceSub, Array.replicate_succ, Array.replicate_zero, List.push_toArray, List.append_toArray, List.nil_append, List.cons_append]
  gi_wp2
  gi_loopw [] (fun wr => ∃ pre x ks', ks = pre ++ ks' ∧ Bits x ks' ∧ wr.heap[w.heap.size + 1]? = some (.cells #[.int .u64 x] 23 (0, 0)) ∧ wr.heap[w.heap.size + 1 + 1 + 1]? = some (.loop (rec .ready none)) ∧ wr.heap[w.heap.size + 1 + 1]? = some (.deferred (some [])) ∧
    (∃ va vn vc, wr.heap[w.heap.size]? = some (.cells #[.slice va vn vc] 67 (0, 0)) ∧ Owned .i64 3 wr (w.heap.size + 1 + 1 + 1 + 1) (.slice va vn vc) pre) ∧ Mod [] w wr) (fun wr => cellNat (wr.cell? ⟨w.heap.size + 1, 0, none⟩))
  case atStart =>
    obtain ⟨hs0, hl0, hk0, hb0, hr0, hm0⟩ := HF.out
    exact ⟨[], b, ks, rfl, hB, hb0, hl0, hk0, ⟨none, 0, 0, hr0, Owned.nil _ _ _ _⟩, hm0⟩
  case round =>
    obtain ⟨pre, x, ks', hks, hbits, hb, hlp, hk, ⟨va, vn, vc, hv, hO⟩, hM⟩ := hrel
    have hbc := cell_in hb (show (#[Value.int .u64 x] : Array Value)[0]? = some (.int .u64 x) from rfl)
    have hbf := free_in (j := 0) hb
    have HKS := Lib.hid hks
    have HH := Lib.hid (And.intro hb (And.intro hlp (And.intro hk (And.intro hv (And.intro hO hM)))))
    clear hks hb hlp hk hv hO hM
    cases hbits with
    | nil =>
      gi_wp2
      go_end0
      obtain ⟨hb, hlp, hk, hv, hO, hM⟩ := HH.out
      have hready : (rec .ready none).state ≠ .busy := by rw [HREC.out]; simp
      have hpend : (rec .ready none).pending = none := by rw [HREC.out]
      obtain ⟨o', hend⟩ : ∃ o', (Instr.endLoop (w.heap.size + 1 + 1 + 1)).run Tryz.prog wr = .ok none (wr.putObj (w.heap.size + 1 + 1 + 1) o') := ⟨_, (run_endLoop hlp hready).trans (by rw [hpend])⟩
      refine ⟨none, _, hend, ?_⟩
      have hv2 : (wr.putObj (w.heap.size + 1 + 1 + 1) o').heap[w.heap.size]? = some (.cells #[.slice va vn vc] 67 (0, 0)) := (World.putObj_heap_other (by omega)).trans hv
      have hk2 : (wr.putObj (w.heap.size + 1 + 1 + 1) o').heap[w.heap.size + 1 + 1]? = some (.deferred (some [])) := (World.putObj_heap_other (by omega)).trans hk
      have hvc := cell_in hv2 (show (#[.slice va vn vc] : Array Value)[0]? = some (.slice va vn vc) from rfl)
      have hvf := free_in (j := 0) hv2
      have hM2 : Mod [] w (wr.putObj (w.heap.size + 1 + 1 + 1) o') := ⟨hM.os, hM.tape, hM.output, by simpa using hM.size, fun k hk _ => (World.putObj_heap_other (by omega)).trans (hM.block k hk (by simp))⟩
      have hO2 : Owned .i64 3 (wr.putObj (w.heap.size + 1 + 1 + 1) o') (w.heap.size + 1 + 1 + 1 + 1) (.slice va vn vc) pre := by
        refine hO.mod (S := [w.heap.size + 1 + 1 + 1]) ⟨rfl, rfl, rfl, by simp, fun k _ hk => World.putObj_heap_other (by simpa using hk)⟩ (fun b hb => ?_)
        have := hO.own_ge b hb
        simp
        omega
      have HE := Lib.hid (And.intro hM2 hO2)
      clear hb hlp hk hv hO hM hM2 hO2 hend
      generalize wr.putObj (w.heap.size + 1 + 1 + 1) o' = wE at hv2 hk2 hvc hvf HE ⊢
      have hs2 : (wE.setCell ⟨w.heap.size, 0, none⟩ (.slice va vn vc)).heap[w.heap.size + 1 + 1]? = some (.deferred (some [])) := (Below.heap_setCell _ _ _ _ (by simp; omega)).trans hk2
      have HK2 := Lib.hid hs2
      gi_wp2
      refine ⟨by simp, .inl ⟨_, _, rfl, run_takeDeferred HK2.out, ?_⟩⟩
      obtain ⟨hM2, hO2⟩ := HE.out
      have hks : pre = ks := by have := HKS.out; simpa using this.symm
      subst hks
      have hch : Mod [w.heap.size, w.heap.size + 1 + 1] wE ((wE.setCell ⟨w.heap.size, 0, none⟩ (.slice va vn vc)).putObj (w.heap.size + 1 + 1) (.deferred none)) := ⟨rfl, rfl, rfl, by simp [World.setCell], fun k _ hk => (World.putObj_heap_other (by simp at hk; omega)).trans (Below.heap_setCell _ _ _ _ (by simp at hk ⊢; omega))⟩
      have hfin : ((wE.setCell ⟨w.heap.size, 0, none⟩ (.slice va vn vc)).putObj (w.heap.size + 1 + 1) (.deferred none)).cell? ⟨w.heap.size, 0, none⟩ = some (.slice va vn vc) :=
        (World.cell?_of_block (w := wE.setCell ⟨w.heap.size, 0, none⟩ (.slice va vn vc)) (World.putObj_heap_other (by simp; omega))).trans (cell_set_same hvc)
      refine ⟨_, results_word rfl _ _ ⟨w.heap.size, 0, none⟩ _ rfl Tryz.underlying67 hfin, ?_⟩
      exact ⟨_, rfl, (hO2.base (by omega)).mod hch (fun b hb => by have := hO2.own_ge b hb; simp; omega), hM2.step hch (fun t ht => .inr (by simp at ht; omega))⟩
    | @cons _ x' k ks'' g0 g1 g2 g3 g4 g5 g6 =>
      have HTZ := Lib.hid (tz_is x k g0 g1 g2 wr (ht.mod HH.out.2.2.2.2.2 (by simp)))
      obtain ⟨i0, hi, hz0, hz1, hz2⟩ := info_parts Tryz.inf_int
      have hpl : pre.length < 64 := by have := HKS.out; rw [this] at hl; simp at hl; omega
      have HREST := Lib.hid (And.intro g3 (And.intro g4 (And.intro g5 g6)))
      have hY : YieldAt Fence.wide 1 Tryz.prog (w.heap.size + 1 + 1 + 1) #[.int .i64 k] wr (fun e W' => e = .returned (.bool true) ∧ W'.heap[w.heap.size + 1]? = some (.cells #[.int .u64 x] 23 (0, 0)) ∧ W'.heap[w.heap.size + 1 + 1 + 1]? = some (.loop (rec .ready none)) ∧ W'.heap[w.heap.size + 1 + 1]? = some (.deferred (some [])) ∧
          (∃ va vn vc, W'.heap[w.heap.size]? = some (.cells #[.slice va vn vc] 67 (0, 0)) ∧ Owned .i64 3 W' (w.heap.size + 1 + 1 + 1 + 1) (.slice va vn vc) (pre ++ [(k : Int)])) ∧ Mod [] w W') := by
        obtain ⟨hb, hlp, hk, hv, hO, hM⟩ := HH.out
        refine round_open trivial HREC.out hlp rfl { tmps := #[.int .u64 b, undef, .pointer (some ⟨w.heap.size, 0, none⟩), .int .i64 k, .int .u64 b, .func (.func 152) #[] #[.pointer (some ⟨w.heap.size + 1, 0, none⟩)], .int .i64 k, undef, undef, undef, undef, undef], defers := [] } ?_ ?_
        · intro K hK
          gi_wp2
          exact hK
        · have hch : Mod [w.heap.size + 1 + 1 + 1] wr (wr.putObj (w.heap.size + 1 + 1 + 1) (.loop { rec .ready none with state := .busy })) := ⟨rfl, rfl, rfl, by simp, fun k _ hk => World.putObj_heap_other (by simpa using hk)⟩
          have hl2 : (wr.putObj (w.heap.size + 1 + 1 + 1) (.loop { rec .ready none with state := .busy })).heap[w.heap.size + 1 + 1 + 1]? = some (.loop { rec .ready none with state := .busy }) := World.putObj_heap_same (Array.getElem?_eq_some_iff.1 hlp).1
          have HCH := Lib.hid hch
          have HL2 := Lib.hid hl2
          have hO2 := Lib.hid (hO.mod hch (fun b hb => by have := hO.own_ge b hb; simp; omega))
          have hv2 := (hch.block _ (Array.getElem?_eq_some_iff.1 hv).1 (by simp; omega)).trans hv
          have hvc := cell_in hv2 (show (#[.slice va vn vc] : Array Value)[0]? = some (.slice va vn vc) from rfl)
          have hvf := free_in (j := 0) hv2
          have HV2 := Lib.hid hv2
          have HB2 := Lib.hid ((hch.block _ (Array.getElem?_eq_some_iff.1 hb).1 (by simp)).trans hb)
          have HK2 := Lib.hid ((hch.block _ (Array.getElem?_eq_some_iff.1 hk).1 (by simp)).trans hk)
          have HM2 := Lib.hid (hM.step hch (fun t ht => .inr (by simp at ht; omega)))
          have HSZ := Lib.hid (show w.heap.size + 1 + 1 + 1 < wr.heap.size from (Array.getElem?_eq_some_iff.1 hlp).1)
          clear hb hlp hk hv hO hM hch hl2 hv2
          generalize wr.putObj (w.heap.size + 1 + 1 + 1) (.loop { rec .ready none with state := .busy }) = wB at HCH HL2 hO2 hvc hvf HV2 HB2 HK2 HM2 ⊢
          gi_wp2_with (gi_at_builtin; refine wpListIn_append_own _ rfl _ _ 67 rfl (w.heap.size + 1 + 1 + 1 + 1) 3 i0 (.int .i64 0) 1 8 Tryz.underlying67 hi hz0 hz1 hz2 rfl (by decide) (.slice va vn vc) pre.length (pre.map (Value.int .i64)) rfl (hO2.out.mod ((Mod.refl [] _).alloc _) (by simp)) ⟨wB.heap.size, 0, none⟩ 1 1 [.int .i64 k] rfl rfl (cell_one_new _ _ _) (by simp [Value.oneCell']) ?_ ?_ ?_ ?_)
          · unfold maxLen; omega
          · omega
          · have := HSZ.out; have := HCH.out.size; omega
          · intro v' w1 hown' hgrow _
            obtain ⟨g', cap', rfl⟩ := ownsRow_succ hown'
            have hS1 : wB.heap.size ≤ w1.heap.size := by have := hgrow.size; simp at this; omega
            have hrow : ∀ q, q < w.heap.size + 1 + 1 + 1 + 1 → q < wB.heap.size → w1.heap[q]? = wB.heap[q]? := fun q hq hqB =>
              (hgrow.block q (by simp; omega) (fun e => by have := hO2.out.own_ge q e.symm; omega)).trans (Below.heap_alloc _ _ _ hqB)
            have hMg : Mod [] w w1 := grown_from (HM2.out.alloc _) hgrow (fun q e => by have := hO2.out.own_ge q e; omega)
            have hv3 := (hrow w.heap.size (by omega) (by have := HSZ.out; have := HCH.out.size; omega)).trans HV2.out
            have hb3 := (hrow (w.heap.size + 1) (by omega) (by have := HSZ.out; have := HCH.out.size; omega)).trans HB2.out
            have hk3 := (hrow (w.heap.size + 1 + 1) (by omega) (by have := HSZ.out; have := HCH.out.size; omega)).trans HK2.out
            have hl3 := (hrow (w.heap.size + 1 + 1 + 1) (by omega) (by have := HSZ.out; have := HCH.out.size; omega)).trans HL2.out
            have hvc3 := cell_in hv3 (show (#[.slice va vn vc] : Array Value)[0]? = some (.slice va vn vc) from rfl)
            have hvf3 := free_in (j := 0) hv3
            have hO3 : Owned .i64 3 w1 (w.heap.size + 1 + 1 + 1 + 1) (.slice (some ⟨g', 0, none⟩) (pre.length + 1) cap') (pre ++ [(k : Int)]) := by
              unfold Owned
              simpa using hown'
            have H3 := Lib.hid (And.intro hMg (And.intro hv3 (And.intro hb3 (And.intro hk3 (And.intro hl3 hO3)))))
            clear hown' hgrow hrow hMg hv3 hb3 hk3 hl3 hO3
            gi_wp2
            obtain ⟨hMg, hv3, hb3, hk3, hl3, hO3⟩ := H3.out
            obtain ⟨wC, hwC⟩ : ∃ wC, w1.setCell ⟨w.heap.size, 0, none⟩ (.slice (some ⟨g', 0, none⟩) (pre.length + 1) cap') = wC := ⟨_, rfl⟩
            have hch : ∀ q, q ≠ w.heap.size → wC.heap[q]? = w1.heap[q]? := fun q hq => by rw [← hwC]; exact Below.heap_setCell _ _ _ _ (by simpa using hq)
            have hown : wC.heap[w.heap.size]? = some (.cells #[.slice (some ⟨g', 0, none⟩) (pre.length + 1) cap'] 67 (0, 0)) := by
              rw [← hwC]; exact Boxed.set (t := 67) (v := .slice va vn vc) _ hv3
            have hMC : Mod [w.heap.size] w1 wC := by rw [← hwC]; exact (Mod.refl _ _).setCell (by simp) _
            rw [hwC]
            have hlC : wC.heap[w.heap.size + 1 + 1 + 1]? = some (.loop { rec .ready none with state := .busy }) := (hch _ (by omega)).trans hl3
            refine ⟨hlC, ?_, ?_, ?_, ?_, ?_⟩
            · exact (World.putObj_heap_other (by omega)).trans ((hch _ (by omega)).trans hb3)
            · exact World.putObj_heap_same (Array.getElem?_eq_some_iff.1 hlC).1
            · exact (World.putObj_heap_other (by omega)).trans ((hch _ (by omega)).trans hk3)
            · refine ⟨_, _, _, (World.putObj_heap_other (by omega)).trans hown, ?_⟩
              refine (hO3.mod hMC (fun q e => by have := hO3.own_ge q e; simp; omega)).mod (S := [w.heap.size + 1 + 1 + 1]) ⟨rfl, rfl, rfl, by simp, fun q _ hq => World.putObj_heap_other (by simpa using hq)⟩ (fun q e => by have := hO3.own_ge q e; simp; omega)
            · exact (hMg.step hMC (fun t ht => .inr (by simp at ht; omega))).step (T := [w.heap.size + 1 + 1 + 1]) ⟨rfl, rfl, rfl, by simp, fun q _ hq => World.putObj_heap_other (by simpa using hq)⟩ (fun t ht => .inr (by simp at ht; omega))
      obtain ⟨fn', tmps', assign', body', hy, hR⟩ := hY
      gi_wp2_with (refine ⟨trivial, ?_⟩; gi_at_call 153; refine (callsIn_wide.2 HTZ.out).mono ?_; rintro e w' ⟨rfl, rfl⟩)
      refine hR.mono ?_
      rintro e W' ⟨rfl, hb, hlp, hk, ⟨va', vn', vc', hv, hO⟩, hM⟩
      have hbc' := cell_in hb (show (#[Value.int .u64 x] : Array Value)[0]? = some (.int .u64 x) from rfl)
      have hbf' := free_in (j := 0) hb
      have hx' := HREST.out.1
      have HH2 := Lib.hid (And.intro hb (And.intro hlp (And.intro hk (And.intro hv (And.intro hO hM)))))
      clear hb hlp hk hv hO hM hR
      gi_wp2
      go_roundw
      case rel =>
        obtain ⟨hb, hlp, hk, hv, hO, hM⟩ := HH2.out
        obtain ⟨wC, hwC⟩ : ∃ wC, W'.setCell ⟨w.heap.size + 1, 0, none⟩ (.int .u64 x') = wC := ⟨_, rfl⟩
        have hch : ∀ q, q ≠ w.heap.size + 1 → wC.heap[q]? = W'.heap[q]? := fun q hq => by rw [← hwC]; exact Below.heap_setCell _ _ _ _ (by simpa using hq)
        have hown : wC.heap[w.heap.size + 1]? = some (.cells #[.int .u64 x'] 23 (0, 0)) := by rw [← hwC]; exact Boxed.set (t := 23) (v := .int .u64 x) _ hb
        have hMC : Mod [w.heap.size + 1] W' wC := by rw [← hwC]; exact (Mod.refl _ _).setCell (by simp) _
        rw [hwC]
        exact ⟨pre ++ [(k : Int)], x', ks'', by rw [HKS.out]; simp, HREST.out.2.2.2, hown, (hch _ (by omega)).trans hlp, (hch _ (by omega)).trans hk, ⟨va', vn', vc', (hch _ (by omega)).trans hv, hO.mod hMC (fun q e => by have := hO.own_ge q e; simp; omega)⟩, hM.step hMC (fun t ht => .inr (by simp at ht; omega))⟩
      case measure =>
        rw [cell_set_same hbc', hbc]
        have := HREST.out
        simp [cellNat]
        omega

theorem blist_is (b : Int) (ks : List Int) (hB : Bits b ks) (hl : ks.length ≤ 64) (w : World) (ht : Tab w) : Calls Tryz.prog 63 #[.int .u64 b] w (BListPost w ks) :=
  callsIn_wide.1 (blist_in b ks hB hl w ht)

theorem bits_one : Bits 1 [0] := .cons (k := 0) (x' := 0) rfl (by decide) (by decide) (by decide) (by decide) (by decide) .nil

end Go.Proofs.YtaaaiggbnkeblaaGreatDoor

namespace Go.Proofs.YtaaaiggbnkeblaaGreatDoor
set_option linter.unusedSimpArgs false
set_option linter.unusedVariables false
open Go.RowKit

/-- A Lots at block d, whose list's array is block g. -/
def LotsAt (w : World) (d g : Nat) (xs : List Int) : Prop :=
  ∃ a c off, w.cell? ⟨d, 0, none⟩ = some (.slice a xs.length c) ∧ w.frozen? ⟨d, 0, none⟩ = false ∧ d ≠ g ∧ (xs ≠ [] → a = some ⟨g, off, none⟩) ∧
    (∀ j x, xs[j]? = some x → w.cell? ⟨g, off + j, none⟩ = some (.int .u64 x)) ∧ (∀ x ∈ xs, 0 ≤ x ∧ x ≤ 18446744073709551615) ∧ xs.length ≤ c ∧ c ≤ maxLen ∧ g < w.heap.size

theorem LotsAt.same {w w' : World} {d g : Nat} {xs : List Int} (h : LotsAt w d g xs) (hd : w'.heap[d]? = w.heap[d]?) (hg : w'.heap[g]? = w.heap[g]?) : LotsAt w' d g xs := by
  obtain ⟨a, c, off, h1, h2, h3, h4, h5, h6, h7, h8, h9⟩ := h
  refine ⟨a, c, off, ?_, ?_, h3, h4, fun j x hj => ?_, h6, h7, h8, ?_⟩
  · rw [World.cell?_of_block (w := w) hd]; exact h1
  · rw [World.frozen?_of_block (w := w) hd]; exact h2
  · rw [World.cell?_of_block (w := w) hg]; exact h5 j x hj
  · rw [Array.getElem?_eq_getElem h9] at hg
    exact (Array.getElem?_eq_some_iff.1 hg).1

theorem lots_pop {w : World} {d g : Nat} {x : Int} {xs : List Int} {v : Value} {a : Option Addr} {off c : Nat} (h1 : w.cell? ⟨d, 0, none⟩ = some v) (h2 : w.frozen? ⟨d, 0, none⟩ = false) (h3 : d ≠ g)
    (h4 : xs ≠ [] → a = some ⟨g, off + 1, none⟩) (h5 : ∀ j y, (x :: xs)[j]? = some y → w.cell? ⟨g, off + j, none⟩ = some (.int .u64 y)) (h6 : ∀ y ∈ xs, 0 ≤ y ∧ y ≤ 18446744073709551615) (h7 : xs.length ≤ c) (h8 : c ≤ maxLen) (h9 : g < w.heap.size) :
    LotsAt (w.setCell ⟨d, 0, none⟩ (.slice a xs.length c)).drew d g xs := by
  refine ⟨a, c, off + 1, cell_set_same h1, by simpa using h2, h3, h4, fun j y hj => ?_, h6, h7, h8, by simpa [World.setCell] using h9⟩
  rw [World.cell?_drew, cell_set_far _ _ _ _ h3, Nat.add_assoc, Nat.add_comm 1 j]
  exact h5 (j + 1) y hj

theorem LotsAt.lt {w : World} {d g : Nat} {xs : List Int} (h : LotsAt w d g xs) : d < w.heap.size ∧ g < w.heap.size := by
  obtain ⟨a, c, off, h1, h2, h3, h4, h5, h6, h7, h8, h9⟩ := h
  refine ⟨?_, h9⟩
  unfold World.cell? at h1
  rcases Nat.lt_or_ge d w.heap.size with h | h
  · exact h
  · rw [Array.getElem?_eq_none h] at h1
    cases h1

theorem LotsAt.mod {w w' : World} {d g : Nat} {xs : List Int} {S : List Nat} (h : LotsAt w d g xs) (hm : Mod S w w') (hd : d ∉ S) (hg : g ∉ S) : LotsAt w' d g xs :=
  h.same (hm.block d h.lt.1 hd) (hm.block g h.lt.2 hg)

set_option maxHeartbeats 400000 in
theorem next_nil (d g : Nat) (w : World) (h : LotsAt w d g []) :
    Calls Tryz.prog 202 #[.pointer (some ⟨d, 0, none⟩)] w fun e w' => e = .returned (.int .u64 0) ∧ w = w' := by
  obtain ⟨a, c, off, h1, h2, h3, h4, h5, h6, h7, h8, h9⟩ := h
  clear h2 h4 h5 h6 h7 h8 h9
  go_enter Tryz.func202, Tryz.ntmps202
  go_wp2
  go_ret
  exact ⟨rfl, rfl⟩

set_option maxHeartbeats 1000000 in
theorem next_cons (d g : Nat) (x : Int) (xs : List Int) (w : World) (h : LotsAt w d g (x :: xs)) :
    Calls Tryz.prog 202 #[.pointer (some ⟨d, 0, none⟩)] w fun e w' => e = .returned (.int .u64 x) ∧ LotsAt w' d g xs ∧ Mod [d] w w' := by
  obtain ⟨a, c, off, h1, h2, h3, h4, h5, h6, h7, h8, h9⟩ := h
  have hc0 := h5 0 x rfl
  obtain rfl := h4 (by simp)
  have hl : (x :: xs).length = xs.length + 1 := rfl
  rw [hl] at h1 h7
  have hcell := h1
  have h6 := fun y hy => h6 y (List.mem_cons_of_mem _ hy)
  unfold maxLen at h8
  have H5 := Lib.hid h5
  clear h4 h5 hl
  simp only [Nat.add_zero] at hc0
  go_enter Tryz.func202, Tryz.ntmps202
  go_wp2
  go_region
  all_goals go_wp2
  all_goals go_ret
  · refine ⟨rfl, lots_pop hcell h2 h3 (fun hx => ?_) H5.out h6 (by omega) (by unfold maxLen; omega) h9, ((Mod.refl _ _).setCell (by simp) _).drew⟩
    cases xs with
    | nil => exact absurd rfl hx
    | cons y ys => simp at h7; omega
  · exact ⟨rfl, lots_pop hcell h2 h3 (fun _ => rfl) H5.out h6 (by omega) (by unfold maxLen; omega) h9, ((Mod.refl _ _).setCell (by simp) _).drew⟩

theorem next_any (d g : Nat) (xs : List Int) (w : World) (h : LotsAt w d g xs) :
    Calls Tryz.prog 202 #[.pointer (some ⟨d, 0, none⟩)] w fun e w' => e = .returned (.int .u64 (xs.headD 0)) ∧ LotsAt w' d g xs.tail ∧ Mod [d] w w' := by
  cases xs with
  | nil => exact (next_nil d g w h).mono fun e w' ⟨he, hw⟩ => ⟨he, hw ▸ h, hw ▸ Mod.refl _ _⟩
  | cons x xs => exact next_cons d g x xs w h

theorem next_is (d g : Nat) (xs : List Int) (y : Int) (w : World) (h : LotsAt w d g xs) (hy : xs.headD 0 = y) :
    Calls Tryz.prog 202 #[.pointer (some ⟨d, 0, none⟩)] w fun e w' => e = .returned (.int .u64 y) ∧ LotsAt w' d g xs.tail ∧ Mod [d] w w' :=
  hy ▸ next_any d g xs w h

def lotBelow (xs : List Int) (n : Int) : Int := if n < 2 then 0 else xs.headD 0 % n
def lotRest (xs : List Int) (n : Int) : List Int := if n < 2 then xs else xs.tail

theorem lots_range {w : World} {d g : Nat} {xs : List Int} (h : LotsAt w d g xs) : 0 ≤ xs.headD 0 ∧ xs.headD 0 ≤ 18446744073709551615 := by
  obtain ⟨a, c, off, h1, h2, h3, h4, h5, h6, h7, h8, h9⟩ := h
  cases xs with
  | nil => simp
  | cons x xs => exact h6 x (by simp)

set_option maxHeartbeats 400000 in
theorem below_small (p : Value) (n : Int) (w : World) (hn : n < 2) :
    Calls Tryz.prog 144 #[p, .int .i64 n] w fun e w' => e = .returned (.int .i64 0) ∧ w = w' := by
  go_enter Tryz.func144, Tryz.ntmps144
  go_wp2
  go_ret
  exact ⟨rfl, rfl⟩

set_option maxHeartbeats 400000 in
theorem below_big (d g : Nat) (xs : List Int) (n : Int) (w : World) (h : LotsAt w d g xs) (hn : 2 ≤ n) (hn2 : n ≤ 9223372036854775807) :
    Calls Tryz.prog 144 #[.pointer (some ⟨d, 0, none⟩), .int .i64 n] w fun e w' => e = .returned (.int .i64 (xs.headD 0 % n)) ∧ LotsAt w' d g xs.tail ∧ Mod [d] w w' := by
  obtain ⟨r1, r2⟩ := lots_range h
  have H := Lib.hid h
  clear h
  generalize hy : xs.headD 0 = y at *
  have HY := Lib.hid hy
  clear hy
  go_enter Tryz.func144, Tryz.ntmps144
  go_wp2_with (go_at_call 202; refine (next_is d g xs y _ H.out HY.out).mono ?_; rintro e w1 ⟨rfl, hL, hM⟩)
  go_ret
  refine ⟨ret_int (wrap_small (Int.emod_nonneg _ (by omega)) ?_), hL, hM⟩
  have := Int.emod_lt_of_pos y (show 0 < n by omega)
  omega

theorem below_any (d g : Nat) (xs : List Int) (n : Int) (w : World) (h : LotsAt w d g xs) (hn2 : n ≤ 9223372036854775807) :
    Calls Tryz.prog 144 #[.pointer (some ⟨d, 0, none⟩), .int .i64 n] w fun e w' => e = .returned (.int .i64 (lotBelow xs n)) ∧ LotsAt w' d g (lotRest xs n) ∧ Mod [d] w w' := by
  unfold lotBelow lotRest
  by_cases hn : n < 2
  · rw [if_pos hn, if_pos hn]
    exact (below_small _ n w hn).mono fun e w' ⟨he, hw⟩ => ⟨he, hw ▸ h, hw ▸ Mod.refl _ _⟩
  · rw [if_neg hn, if_neg hn]
    exact below_big d g xs n w h (by omega) hn2

theorem Tryz.info_u64 : (Tryz.prog.info? 23).map (fun i => (i.zero, i.size, i.bytes)) = some (some (.int .u64 0), 1, 8) := by kernel_rfl
theorem Tryz.info_int : (Tryz.prog.info? 3).map (fun i => (i.zero, i.size, i.bytes)) = some (some (.int .i64 0), 1, 8) := by kernel_rfl

theorem Tryz.size_u64 : (Tryz.prog.info? 23).map (·.size) = some 1 := by kernel_rfl
theorem Tryz.size_int : (Tryz.prog.info? 3).map (·.size) = some 1 := by kernel_rfl

/-- What New answers. -/
def NewPost (w : World) (xs : List Int) (e : Ending) (w' : World) : Prop :=
  ∃ d g, e = .returned (.pointer (some ⟨d, 0, none⟩)) ∧ w.heap.size ≤ d ∧ w.heap.size ≤ g ∧ LotsAt w' d g xs ∧ Mod [] w w'

theorem new_end {xs : List Int} {w w1 : World} {o : Obj} {t : TypeId} (hx : ∀ x ∈ xs, 0 ≤ x ∧ x ≤ 18446744073709551615) (hlen : xs.length * 8 ≤ 140737488351232)
    (hrow : w1.heap[w.heap.size]? = some (.cells (xs.map (Value.int .u64)).toArray t (0, 0)))
    (hgr : ((w.alloc o).alloc (.cells #[.slice (some ⟨w.heap.size, 0, none⟩) xs.length xs.length] 125)).grownBy w1 (some w.heap.size)) : NewPost w xs (.returned (.pointer (some ⟨w.heap.size + 1, 0, none⟩))) w1 := by
  have hd : w1.heap[w.heap.size + 1]? = some (.cells #[.slice (some ⟨w.heap.size, 0, none⟩) xs.length xs.length] 125 (0, 0)) := by
    rw [hgr.block _ (by simp) (by simp)]
    exact heap_top _ _ _
  refine ⟨w.heap.size + 1, w.heap.size, rfl, by omega, by omega, ⟨some ⟨w.heap.size, 0, none⟩, xs.length, 0, ?_, ?_, by omega, fun _ => rfl, fun j x hj => ?_, hx, by omega, by unfold maxLen; omega, (Array.getElem?_eq_some_iff.1 hrow).1⟩, ?_⟩
  · simp [World.cell?, hd]
  · simp [World.frozen?, hd]
  · simp [World.cell?, hrow, hj]
  · exact (((Mod.refl [] w).alloc _).alloc _).grown hgr (.inr (Nat.le_refl _))

set_option maxHeartbeats 1000000 in
theorem new_any (a : Option Addr) (c : Nat) (xs : List Int) (w : World) (hr : RdInts .u64 w a xs) (hlen : xs.length * 8 ≤ 140737488351232) (hx : ∀ x ∈ xs, 0 ≤ x ∧ x ≤ 18446744073709551615) :
    Calls Tryz.prog 13 #[.slice a xs.length c] w (NewPost w xs) := by
  have hmk := run_make_row' (P := Tryz.prog) 49 23 (.int .u64 0) 8 Tryz.underlying49 Tryz.info_u64 rfl .i64 .i64 xs.length (by omega) (by omega)
  have HX := Lib.hid hx
  have HR := Lib.hid hr
  have HL := Lib.hid hlen
  clear hx hr hlen
  go_enter Tryz.func13, Tryz.ntmps13
  go_wp2_with (with_reducible refine wpList_copy_full rfl (.tmp 12) (.tmp 13) 49 49 rfl 23 Tryz.underlying49 Tryz.size_u64 .u64 xs w.heap.size xs.length c a rfl rfl (madeCells #[.int .u64 0] xs.length) 23 ?hg ?hcur ?hsrc ?next)
  case hg => exact heap_two _ _ _
  case hcur => simp [madeCells]
  case hsrc => exact (HR.out.alloc _).alloc _
  case next =>
    intro w1 hrow hgr hsz
    have HROW := Lib.hid hrow
    clear hrow
    go_wp2
    go_ret
    exact new_end HX.out HL.out HROW.out hgr

end Go.Proofs.YtaaaiggbnkeblaaGreatDoor
