/-
  Rows of messages in memory: read ones, the call's own ones; append of one message.
  The walks of order's Desk: Waits.
  The walks of order's Desk: Num, Seen.
-/
import Derived.Test.YtaaaiggbnkeblaaGreatDoorMDesk
import Derived.Maps.AppendAt
namespace Go.Proofs.YtaaaiggbnkeblaaGreatDoor
set_option linter.unusedSimpArgs false
set_option linter.unusedVariables false
open Go.RowKit

def flat (ms : List M) : List Value := ms.flatMap mcells
theorem flat_nil : flat [] = [] := rfl
theorem flat_append (a b : List M) : flat (a ++ b) = flat a ++ flat b := by simp [flat]
theorem flat_one (m : M) : flat [m] = mcells m := by simp [flat]
theorem flat_length (ms : List M) : (flat ms).length = ms.length * 3 := by
  induction ms with
  | nil => rfl
  | cons m t ih =>
    show (mcells m ++ flat t).length = (t.length + 1) * 3
    rw [List.length_append, ih]
    simp [mcells]
    omega
theorem flat_get (ms : List M) (i : Nat) (m : M) (h : ms[i]? = some m) (j : Nat) (v : Value) (hv : (mcells m)[j]? = some v) : (flat ms)[i * 3 + j]? = some v := by
  induction ms generalizing i with
  | nil => simp at h
  | cons m' t ih =>
    show (mcells m' ++ flat t)[i * 3 + j]? = some v
    have hj : j < 3 := (List.getElem?_eq_some_iff.1 hv).1
    cases i with
    | zero =>
      obtain rfl : m' = m := by simpa using h
      rw [List.getElem?_append_left (by simp [mcells]; omega)]
      simpa using hv
    | succ i =>
      rw [List.getElem?_append_right (by simp [mcells]; omega)]
      have := ih i (by simpa using h)
      rw [← this]
      congr 1
      simp [mcells]
      omega

/-- A slice of messages whose cells can be read. -/
def RdMs (w : World) (a : Option Addr) (ms : List M) : Prop := ms ≠ [] → ∃ g o, a = some ⟨g, o, none⟩ ∧ g < w.heap.size ∧ w.rangeAt g o (flat ms)

theorem RdMs.mod {w w' : World} {S : List Nat} {a : Option Addr} {ms : List M} (h : RdMs w a ms) (hm : Mod S w w') (hs : ∀ g o, a = some ⟨g, o, none⟩ → g ∉ S) : RdMs w' a ms := fun hne => by
  obtain ⟨g, o, rfl, hlt, hr⟩ := h hne
  exact ⟨g, o, rfl, Nat.lt_of_lt_of_le hlt hm.size, rangeAt_mod hr hlt hm (hs g o rfl)⟩

theorem RdMs.at {w : World} {g o : Nat} {ms : List M} (h : w.rangeAt g o (flat ms)) {i : Nat} {m : M} (hi : ms[i]? = some m) : w.rangeAt g (o + i * 3) (mcells m) := fun j v hv => by
  have := h (i * 3 + j) v (flat_get ms i m hi j v hv)
  rw [← Nat.add_assoc] at this
  exact this

/-- The call's own row of messages. -/
def OwnMs (w : World) (B : Nat) (v : Value) (ms : List M) : Prop := w.ownsRow B 156 3 v ms.length (flat ms)

theorem OwnMs.nil (w : World) (B : Nat) : OwnMs w B (.slice none 0 0) [] := ⟨rfl, .inl ⟨rfl, rfl⟩⟩
theorem OwnMs.empty {w : World} {B g : Nat} (h : w.heap[g]? = some (.cells #[] 156 (0, 0))) (hB : B ≤ g) : OwnMs w B (.slice (some ⟨g, 0, none⟩) 0 0) [] :=
  ⟨rfl, .inr ⟨g, 0, #[], rfl, hB, h, Nat.le_refl _, by simp, rfl, rfl⟩⟩
theorem OwnMs.mod {w w' : World} {B : Nat} {v : Value} {ms : List M} {S : List Nat} (h : OwnMs w B v ms) (hm : Mod S w w') (hs : ∀ b, v.ownBlock = some b → b ∉ S) : OwnMs w' B v ms := by
  obtain ⟨hl, h⟩ := h
  refine ⟨hl, ?_⟩
  rcases h with ⟨rfl, h0⟩ | ⟨g, cap, cur, rfl, hB, hg, h1, h2, h3, h4⟩
  · exact .inl ⟨rfl, h0⟩
  · exact .inr ⟨g, cap, cur, rfl, hB, (hm.block g (Array.getElem?_eq_some_iff.1 hg).1 (hs g rfl)).trans hg, h1, h2, h3, h4⟩
theorem OwnMs.own_ge {w : World} {B : Nat} {v : Value} {ms : List M} (h : OwnMs w B v ms) : ∀ b, v.ownBlock = some b → B ≤ b ∧ b < w.heap.size := by
  obtain ⟨hl, h⟩ := h
  intro b hb
  rcases h with ⟨rfl, h0⟩ | ⟨g, cap, cur, rfl, hB, hg, h1, h2, h3, h4⟩
  · cases hb
  · obtain rfl : g = b := by simpa [Value.ownBlock] using hb
    exact ⟨hB, (Array.getElem?_eq_some_iff.1 hg).1⟩
theorem OwnMs.shape {w : World} {B : Nat} {v : Value} {ms : List M} (h : OwnMs w B v ms) :
    ∃ a c, v = .slice a ms.length c ∧ RdMs w a ms ∧ (a = none → c = 0) ∧ ms.length ≤ c ∧ c ≤ maxLen ∧ ∀ ad, a = some ad → ∃ g, ad = ⟨g, 0, none⟩ ∧ B ≤ g := by
  have hown := h
  obtain ⟨hl, h⟩ := h
  rcases h with ⟨rfl, h0⟩ | ⟨g, cap, cur, rfl, hB, hg, h1, h2, h3, h4⟩
  · have : ms = [] := List.eq_nil_of_length_eq_zero h0
    subst this
    exact ⟨none, 0, rfl, fun h => absurd rfl h, fun _ => rfl, Nat.le_refl _, by simp, fun ad h => by cases h⟩
  · refine ⟨some ⟨g, 0, none⟩, cap, rfl, fun _ => ⟨g, 0, rfl, (Array.getElem?_eq_some_iff.1 hg).1, fun j x hj => ?_⟩, fun h => (by cases h), h1, h2, fun ad h => ⟨g, by cases h; rfl, hB⟩⟩
    have hlt : j < ms.length * 3 := by rw [← flat_length]; exact (List.getElem?_eq_some_iff.1 hj).1
    have := hown.cellAt j hlt
    rw [Nat.zero_add]
    exact this.trans hj

theorem infoMsg : ∃ i, Tryz.prog.info? 156 = some i ∧ i.zero = some (.agg #[.int .i64 0, .int .u64 0, .string ⟨#[]⟩]) ∧ i.size = 3 ∧ i.bytes ≤ 64 := by
  have h : (Tryz.prog.info? 156).map (fun i => (i.zero, i.size, decide (i.bytes ≤ 64))) = some (some (.agg #[.int .i64 0, .int .u64 0, .string ⟨#[]⟩]), 3, true) := by kernel_rfl
  cases hi : Tryz.prog.info? 156 with
  | none => rw [hi] at h; cases h
  | some i =>
    rw [hi] at h
    simp at h
    exact ⟨i, rfl, h.1, h.2.1, h.2.2⟩

/-- 'append(l, m)': l the call's own; the new one lies in a block of one message. -/
theorem wpList_append_msg {w : World} {ops : Array Oper} {rest : List Oper} {o : Oper} {a : Act} {Q : Exit → Act → World → Prop} (hgd : o.guard = none) (s x : Operand)
    (ho : o.op = .call { callee := .builtin .append, args := #[s, x], argTypes := #[312, 312] })
    (B : Nat) (v : Value) (ms : List M) (hs : a.eval s = v) (hown : OwnMs w B v ms) (g c : Nat) (m : M) (hx : a.eval x = .slice (some ⟨g, 0, none⟩) 1 c) (hr : w.rangeAt g 0 (mcells m))
    (hlen : ms.length < 1000000) (hB : B ≤ w.heap.size)
    (h : ∀ v' w', OwnMs w' B v' (ms ++ [m]) → w.grownBy w' v.ownBlock → (v'.ownBlock = v.ownBlock ∨ v'.ownBlock = some w.heap.size) → wpList Tryz.prog ops Q rest (a.put o.dst v') w') :
    wpList Tryz.prog ops Q (o :: rest) a w := by
  obtain ⟨i, hi, hz, hsz, hby⟩ := infoMsg
  refine wpList_append_own_at w hgd s x _ ho B 156 i _ 3 i.bytes Tryz.underlying312 hi hz hsz rfl rfl (by decide) v ms.length _ hs hown ⟨g, 0, none⟩ 1 c (mcells m) hx rfl ?_ ?_ (by unfold maxLen; omega) ?_ hB ?_
  · intro j u hj
    rw [Addr.add_mid]
    exact hr j u hj
  · intro u hu
    simp [mcells] at hu
    rcases hu with rfl | rfl | rfl <;> rfl
  · have := Nat.mul_le_mul (show ms.length + 1 ≤ 1000000 by omega) hby
    omega
  · intro v' w' h1 h2 _ h4
    refine h v' w' ?_ h2 h4
    have e : flat (ms ++ [m]) = flat ms ++ mcells m := by rw [flat_append, flat_one]
    unfold OwnMs
    rw [e, List.length_append]
    exact h1

end Go.Proofs.YtaaaiggbnkeblaaGreatDoor

namespace Go.Proofs.YtaaaiggbnkeblaaGreatDoor
set_option linter.unusedSimpArgs false
set_option linter.unusedVariables false
open Go.RowKit

def WaitsRel (w : World) (L : List M) (n : Nat) (v u : Value) (wr : World) : Prop :=
  ∃ k : Nat, u = .int .i64 k ∧ k ≤ n ∧ OwnMs wr w.heap.size v (L.take k) ∧ Mod [] w wr

def WaitsPost (w : World) (L : List M) (n : Nat) (e : Ending) (w' : World) : Prop :=
  ∃ v, e = .returned v ∧ OwnMs w' w.heap.size v (L.take n) ∧ Mod [] w w'

theorem range_new (w : World) (m : M) : ((w.alloc (.cells #[.int .i64 m.1, .int .u64 m.2.1, .string m.2.2] 156)).drew).rangeAt w.heap.size 0 (mcells m) := fun j v hv => by
  rw [Nat.zero_add]
  exact cell_in (heap_new w (.cells #[.int .i64 m.1, .int .u64 m.2.1, .string m.2.2] 156)) (by simpa [mcells] using hv)
theorem take_one {α : Type} {L : List α} {k : Nat} {m : α} (h : L[k]? = some m) : L.take k ++ [m] = L.take (k + 1) := by
  rw [List.take_add_one, h]
  rfl
theorem Mod.grown' {a w w' : World} {r : Option Nat} (h : Mod [] a w) (hg : w.grownBy w' r) (hs : ∀ b, r = some b → a.heap.size ≤ b) : Mod [] a w' :=
  ⟨hg.os.trans h.os, hg.tape.trans h.tape, hg.output.trans h.output, Nat.le_trans h.size hg.size, fun k hk hks => (hg.block k (Nat.lt_of_lt_of_le hk h.size) (fun e => by
    have := hs k e.symm
    omega)).trans (h.block k hk hks)⟩
theorem mval_eta (m : M) : (m.1, m.2.1, m.2.2) = m := rfl

set_option maxRecDepth 100000 in
set_option maxHeartbeats 4000000 in
theorem waits_pos (d : Nat) (me num head : Int) (r : Nat → M) (L : List M) (most : Int) (n many : Nat) (w : World) (hr : DeskRaw w d me num head many r) (hl : ∀ i m, L[i]? = some m → r ((head.toNat + i) % 8) = m) (hmany : L.length = many) (hn0 : 0 < n)
    (hX : ((many : Int) < most ∧ n = many) ∨ (most = n ∧ n ≤ many)) :
    Calls Tryz.prog 207 #[.pointer (some ⟨d, 0, none⟩), .int .i64 most] w (WaitsPost w L n) := by
  have hd := hr.lt
  have h27 := hr.c27
  have hm1 := hr.m1
  have h0 := hr.h0
  have h1 := hr.h1
  have hnm : n ≤ many := by omega
  have HR := Lib.hid hr
  have HL := Lib.hid hl
  have HM := Lib.hid hmany
  clear hr hl hmany
  rcases hX with ⟨ha, rfl⟩ | ⟨rfl, ha⟩
  all_goals
    go_enter Tryz.func207, Tryz.ntmps207
    go_wp2_with fail
  all_goals
    go_loopw [4, 13] (fun v u wr => WaitsRel w L n v u wr) (fun _ u _ => n - (intOf u).toNat)
    case atStart => exact ⟨0, rfl, Nat.zero_le _, OwnMs.nil _ _, Mod.refl _ _⟩
    case round =>
      obtain ⟨k, rfl, hk, hO, hM⟩ := hrel
      have HRr := Lib.hid (HR.out.mod hM (by simp))
      have HO := Lib.hid hO
      have HMO := Lib.hid hM
      clear hO hM
      by_cases hlt : (k : Int) < n
      · have hlt' : k < n := by omega
        obtain ⟨m, hm⟩ : ∃ m, L[k]? = some m := ⟨_, List.getElem?_eq_getElem (by have := HM.out; omega)⟩
        obtain ⟨j, hj⟩ : ∃ j, (head.toNat + k) % 8 = j := ⟨_, rfl⟩
        have hj8 : j < 8 := by omega
        have hrm : r j = m := by rw [← hj]; exact HL.out k m hm
        have s0 : wr.cell? ⟨d, 2 + j * 3, none⟩ = some (.int .i64 m.1) := HRr.out.ring j hj8 0 _ (by rw [hrm]; rfl)
        have s1 : wr.cell? ⟨d, 2 + j * 3 + 1, none⟩ = some (.int .u64 m.2.1) := HRr.out.ring j hj8 1 _ (by rw [hrm]; rfl)
        have s2 : wr.cell? ⟨d, 2 + j * 3 + 2, none⟩ = some (.string m.2.2) := HRr.out.ring j hj8 2 _ (by rw [hrm]; rfl)
        have HJ := Lib.hid hj
        have HMM := Lib.hid hm
        clear hj hrm hm
        go_wp2_with (first | (go_at_call 159; refine (dat_any d me num head _ r k _ HRr.out (by omega) (by omega) j HJ.out).mono ?_; rintro e w5 ⟨rfl, rfl⟩) | (at_builtin; with_reducible refine wpList_append_msg rfl _ _ rfl w.heap.size _ _ rfl (HO.out.mod ((Mod.refl [] _).alloc _).drew (by simp)) _ _ m rfl ?o1 ?o2 ?o3 ?o4))
        case o1 => exact range_new _ m
        case o2 => have := HM.out; simp; omega
        case o3 => have := HMO.out.size; simp; omega
        case o4 =>
          intro v' w' hO' hgr hat
          rw [take_one HMM.out] at hO'
          have HO2 := Lib.hid hO'
          have HM2 := Lib.hid (((HMO.out.alloc _).drew).grown' hgr (fun b hb => (HO.out.own_ge b hb).1))
          clear hO' hgr hat
          go_wp2_with fail
          go_roundw
          case rel => exact ⟨k + 1, by go_num, by omega, HO2.out, HM2.out⟩
          case measure => simp [intOf]; omega
      · go_wp2_with fail
        go_ret
        obtain rfl : k = n := by omega
        exact ⟨_, rfl, HO.out, HMO.out⟩

theorem waits_zero (d : Nat) (me num head : Int) (r : Nat → M) (L : List M) (most : Int) (many : Nat) (w : World) (hr : DeskRaw w d me num head many r) (hX : most ≤ 0 ∨ many = 0) :
    Calls Tryz.prog 207 #[.pointer (some ⟨d, 0, none⟩), .int .i64 most] w (WaitsPost w L 0) := by
  have h27 := hr.c27
  clear hr
  have fin : ∀ w, WaitsPost w L 0 (.returned (.slice none 0 0)) w := fun w => ⟨_, rfl, OwnMs.nil _ _, Mod.refl _ _⟩
  have FIN := Lib.hid fin
  clear fin
  go_enter Tryz.func207, Tryz.ntmps207
  go_wp2_with fail
  all_goals
    first
    | (exfalso; omega)
    | (refine wp_loop_rounds 1 ?_
       rw [rounds_succ]
       go_wp2
       go_ret
       exact FIN.out _)

theorem waits_any (d : Nat) (me num : Int) (L : List M) (most : Int) (n : Nat) (w : World) (h : DeskAt w d me num L) (hn : max 0 (min most (L.length : Int)) = n) :
    Calls Tryz.prog 207 #[.pointer (some ⟨d, 0, none⟩), .int .i64 most] w (WaitsPost w L n) := by
  obtain ⟨head, r, hr, hl⟩ := h
  by_cases h0 : n = 0
  · subst h0
    exact waits_zero d me num head r L most L.length w hr (by omega)
  · exact waits_pos d me num head r L most n L.length w hr hl rfl (by omega) (by omega)

end Go.Proofs.YtaaaiggbnkeblaaGreatDoor

namespace Go.Proofs.YtaaaiggbnkeblaaGreatDoor
set_option linter.unusedSimpArgs false
set_option linter.unusedVariables false
open Go.RowKit

theorem dnum_any (d : Nat) (me num head many : Int) (r : Nat → M) (w : World) (h : DeskRaw w d me num head many r) :
    Calls Tryz.prog 155 #[.pointer (some ⟨d, 0, none⟩)] w fun e w' => e = .returned (.int .u64 num) ∧ w = w' := by
  have h1 := h.c1
  clear h
  go_enter Tryz.func155, Tryz.ntmps155
  go_wp2
  go_ret
  exact ⟨rfl, rfl⟩

/-- Does the desk see m? -/
def seenOk (me : Int) (L : List M) (m : M) : Bool := match L with | [] => false | x :: _ => decide (m.1 = me ∧ x.2.1 = m.2.1)

def SeenPost (w : World) (d : Nat) (me num : Int) (L : List M) (m : M) (e : Ending) (w' : World) : Prop :=
  e = .returned (.bool (seenOk me L m)) ∧ Mod [d] w w' ∧ DeskAt w' d me num (if seenOk me L m then L.tail else L)

theorem seen_same {w w' : World} {d : Nat} {me num : Int} {L : List M} {m : M} (h : DeskAt w d me num L) (hs : seenOk me L m = false) (hm : Mod [] w w') : SeenPost w d me num L m (.returned (.bool false)) w' := by
  refine ⟨by rw [hs], hm.mono (by simp), ?_⟩
  rw [hs]
  exact h.mod hm (by simp)

theorem seen_fin {w W2 : World} {d : Nat} {me num head h2 mi : Int} {x m : M} {L : List M} {r : Nat → M} (hs : seenOk me (x :: L) m = true) (hl : ∀ i m', (x :: L)[i]? = some m' → r ((head.toNat + i) % 8) = m')
    (hr : DeskRaw W2 d me num head ((x :: L).length : Int) r) (hm : Mod [d] w W2) (hmi : ((x :: L).length : Int) = mi) (hh : (head + 1) % 8 = h2) :
    SeenPost w d me num (x :: L) m (.returned (.bool true)) ((W2.drew.setCell ⟨d, 26, none⟩ (.int .i64 h2)).setCell ⟨d, 27, none⟩ (.int .i64 (mi - 1))) := by
  refine ⟨by rw [hs], ((hm.drew.setCell (.inl (by simp)) _).setCell (.inl (by simp)) _), ?_⟩
  rw [hs]
  have h0 := hr.h0
  have h8 := hr.h1
  have hm1 := hr.m1
  have e : (L.length : Int) = mi - 1 := by rw [← hmi]; simp
  refine ⟨h2, r, ?_, fun i m' hi => ?_⟩
  · show DeskRaw _ d me num h2 (L.length : Int) r
    rw [e]
    exact ((hr.mod (Mod.refl [] _).drew (by simp)).setHead h2 (by omega) (by omega)).setMany (mi - 1) (by omega) (by omega)
  · have := hl (i + 1) m' (by simpa using hi)
    rw [← this]
    congr 1
    omega

set_option maxRecDepth 100000 in
set_option maxHeartbeats 4000000 in
theorem seen_any (d : Nat) (me num : Int) (L : List M) (m : M) (w : World) (h : DeskAt w d me num L) :
    Calls Tryz.prog 277 #[.pointer (some ⟨d, 0, none⟩), .agg #[.int .i64 m.1, .int .u64 m.2.1, .string m.2.2]] w (SeenPost w d me num L m) := by
  have H := Lib.hid h
  obtain ⟨head, r, hr, hl⟩ := h
  have hd := hr.lt
  have c0 := hr.c0
  have c27 := hr.c27
  have c26 := hr.c26
  have f26 := (hr.free 26 (by omega)).2
  have f27 := (hr.free 27 (by omega)).2
  rw [Nat.zero_add] at f26 f27
  have h0 := hr.h0
  have h1 := hr.h1
  have hm1 := hr.m1
  obtain ⟨s, n, t⟩ := m
  obtain ⟨many, hmany⟩ : ∃ many, L.length = many := ⟨_, rfl⟩
  rw [hmany] at c27 hm1
  have HR := Lib.hid hr
  have HL := Lib.hid hl
  have HM := Lib.hid hmany
  clear hl hr hmany
  dsimp only
  by_cases hs : s = me
  · have hsq : (s != me) = false := by simpa using hs
    cases L with
    | nil =>
      have hsn : seenOk me [] (s, n, t) = false := rfl
      obtain rfl : many = 0 := HM.out.symm
      have HS := Lib.hid hsn
      clear hsn
      go_enter Tryz.func277, Tryz.ntmps277
      go_wp2_with fail
      go_quiet (fail)
      go_wp2_with fail
      go_ret
      exact seen_same H.out HS.out (((Mod.refl _ _).alloc _).drewN _)
    | cons x L =>
      have hmp : (many : Int) ≠ 0 := by have := HM.out; simp at this; omega
      have hmq : ((many : Int) == 0) = false := by simpa using hmp
      obtain ⟨k, hk⟩ : ∃ k, head.toNat = k := ⟨_, rfl⟩
      have hk8 : k < 8 := by omega
      have hkk : (head.toNat + (0 : Int).toNat) % 8 = k := by simp; omega
      have hrk : r k = x := by
        have := HL.out 0 x rfl
        rw [← this]
        congr 1
        omega
      have s1 : w.cell? ⟨d, 2 + k * 3 + 1, none⟩ = some (.int .u64 x.2.1) := HR.out.ring k hk8 1 _ (by rw [hrk]; rfl)
      have HK := Lib.hid hkk
      have HRK := Lib.hid hrk
      have HKK := Lib.hid hk
      clear hkk hrk hk
      by_cases hn : x.2.1 = n
      · have hsn : seenOk me (x :: L) (s, n, t) = true := by simp [seenOk, hs, hn]
        have hnq : (x.2.1 != n) = false := by simpa using hn
        have HS := Lib.hid hsn
        clear hsn hn hs hmp
        go_enter Tryz.func277, Tryz.ntmps277
        go_wp2_with fail
        go_region_held3 (fun w' => w'.cell? ⟨d, 0, none⟩ = some (.int .i64 me) ∧ w'.cell? ⟨d, 27, none⟩ = some (.int .i64 many) ∧ w'.cell? ⟨d, 2 + k * 3 + 1, none⟩ = some (.int .u64 x.2.1) ∧ w'.cell? ⟨w.heap.size, 0, none⟩ = some (.int .i64 s) ∧ w'.cell? ⟨w.heap.size, 1, none⟩ = some (.int .u64 n)) (first | go_keep) (first | (go_at_call 159; refine (dat_any d me num head _ r 0 _ (HR.out.mod ((Mod.refl [] _).alloc _).drew (by simp)) (by omega) (by omega) k HK.out).mono ?_; rintro e w5 ⟨rfl, rfl⟩))
        have hraw2 := HR.out.mod (((Mod.refl [] w).alloc (.cells #[.int .i64 s, .int .u64 n, .string t] 156)).drew.drew) (by simp)
        have hm2 := (((Mod.refl [d] w).alloc (.cells #[.int .i64 s, .int .u64 n, .string t] 156)).drew.drew)
        rename_i hHeld
        clear hHeld c0 c26 c27 f26 f27 s1
        generalize hW2 : (w.alloc (.cells #[.int .i64 s, .int .u64 n, .string t] 156)).drew.drew = W2 at hraw2 hm2 ⊢
        clear hW2
        have c26 := hraw2.c26
        have c27 : W2.cell? ⟨d, 27, none⟩ = some (.int .i64 many) := by rw [← HM.out]; exact hraw2.c27
        have f26 := (hraw2.free 26 (by omega)).2
        have f27 := (hraw2.free 27 (by omega)).2
        rw [Nat.zero_add] at f26 f27
        obtain ⟨h2, hh2⟩ : ∃ h2, (head + 1) % 8 = h2 := ⟨_, rfl⟩
        have hw1 : wrap64 (head + 1) = head + 1 := wrap_small (by omega) (by omega)
        have ht1 : (head + 1).tmod 8 = h2 := by rw [Int.tmod_eq_emod_of_nonneg (by omega)]; exact hh2
        have hmp : 1 ≤ (many : Int) := by have := HM.out; simp at this; omega
        have hw2 : wrap64 ((many : Int) - 1) = (many : Int) - 1 := wrap_small (by omega) (by omega)
        have fin := seen_fin HS.out HL.out hraw2 hm2 (show ((x :: L).length : Int) = many by rw [HM.out]) hh2
        have FIN := Lib.hid fin
        clear fin hraw2 hm2 hh2
        go_wp2_with fail
        go_region
        go_wp2_with fail
        go_ret
        exact FIN.out
      · have hsn : seenOk me (x :: L) (s, n, t) = false := by simp [seenOk, hs]; omega
        have hnq : (x.2.1 != n) = true := by simpa using hn
        have HS := Lib.hid hsn
        clear hsn hn hs hmp
        go_enter Tryz.func277, Tryz.ntmps277
        go_wp2_with fail
        go_region_held3 (fun w' => w'.cell? ⟨d, 0, none⟩ = some (.int .i64 me) ∧ w'.cell? ⟨d, 27, none⟩ = some (.int .i64 many) ∧ w'.cell? ⟨d, 2 + k * 3 + 1, none⟩ = some (.int .u64 x.2.1) ∧ w'.cell? ⟨w.heap.size, 0, none⟩ = some (.int .i64 s) ∧ w'.cell? ⟨w.heap.size, 1, none⟩ = some (.int .u64 n)) (first | go_keep) (first | (go_at_call 159; refine (dat_any d me num head _ r 0 _ (HR.out.mod ((Mod.refl [] _).alloc _).drew (by simp)) (by omega) (by omega) k HK.out).mono ?_; rintro e w5 ⟨rfl, rfl⟩))
        go_wp2_with fail
        go_ret
        exact seen_same H.out HS.out ((Mod.refl _ _).alloc _).drew.drew
  · have hsq : (s != me) = true := by simpa using hs
    have hsn : seenOk me L (s, n, t) = false := by
      cases L with
      | nil => rfl
      | cons x L => simp [seenOk, hs]
    have HS := Lib.hid hsn
    clear hsn hs
    go_enter Tryz.func277, Tryz.ntmps277
    go_wp2_with fail
    go_quiet (fail)
    go_wp2_with fail
    go_ret
    exact seen_same H.out HS.out (((Mod.refl _ _).alloc _).drewN _)

end Go.Proofs.YtaaaiggbnkeblaaGreatDoor
