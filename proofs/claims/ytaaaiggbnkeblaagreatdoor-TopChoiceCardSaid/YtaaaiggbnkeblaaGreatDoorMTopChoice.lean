/-
  The stages of TopChoice: three turns and the letters that are on their way.
  The loop of TopChoice: what holds at its head.
  The walk of TopChoice.
-/
import Derived.Test.YtaaaiggbnkeblaaGreatDoorMChoU
import Derived.Test.YtaaaiggbnkeblaaGreatDoorMTopSh
namespace Go.Proofs.YtaaaiggbnkeblaaGreatDoor
set_option linter.unusedSimpArgs false
set_option linter.unusedVariables false
open Go.RowKit

structure Stg where
  (a b c : TS)
  net : List Let
/-- What is given: the reaches, the joins. -/
structure Giv where
  (r : Nat → Int)
  (J M f0 f : Int)
  js : List Int
structure GivOk (G : Giv) : Prop where
  r0 : 0 ≤ G.r 0
  f0 : (if G.r 0 < G.r 1 then G.r 1 else G.r 0) = G.f0
  f : (if G.f0 < G.r 2 then G.r 2 else G.f0) = G.f
  m : bits .or .u64 7 G.J = G.M
  bits : Bits G.J G.js
  len : G.js.length ≤ 8
  all : ∀ x ∈ G.js, 3 ≤ x ∧ x < 64
  l1 : Go.bits .andNot .u64 G.J 1 = G.J
  l7 : Go.bits .andNot .u64 G.M 7 = G.J
def Giv.ds (G : Giv) : List Let := G.js.map fun x : Int => lD G.M G.f x.toNat
def Giv.stg (G : Giv) : Nat → Stg
  | 0 => ⟨sB G.J (G.r 0), TS.zero 1, TS.zero 2, [lP 1, lP 2]⟩
  | 1 => ⟨sB G.J (G.r 0), pA 1 (G.r 1), TS.zero 2, [lP 2, lR 1 (G.r 1)]⟩
  | 2 => ⟨sB G.J (G.r 0), pA 1 (G.r 1), pA 2 (G.r 2), [lR 1 (G.r 1), lR 2 (G.r 2)]⟩
  | 3 => ⟨sC G.J (G.r 0) G.f0, pA 1 (G.r 1), pA 2 (G.r 2), [lR 2 (G.r 2)]⟩
  | 4 => ⟨sD G.J (G.r 0) G.f G.M, pA 1 (G.r 1), pA 2 (G.r 2), [lA G.M G.f 1, lA G.M G.f 2]⟩
  | 5 => ⟨sD G.J (G.r 0) G.f G.M, pB 1 (G.r 1) G.M G.f, pA 2 (G.r 2), [lA G.M G.f 2, lK 1]⟩
  | 6 => ⟨sD G.J (G.r 0) G.f G.M, pB 1 (G.r 1) G.M G.f, pB 2 (G.r 2) G.M G.f, [lK 1, lK 2]⟩
  | 7 => ⟨sE G.J (G.r 0) G.f G.M, pB 1 (G.r 1) G.M G.f, pB 2 (G.r 2) G.M G.f, lK 2 :: lD G.M G.f 1 :: lD G.M G.f 2 :: G.ds⟩
  | 8 => ⟨sF G.J (G.r 0) G.f G.M, pB 1 (G.r 1) G.M G.f, pB 2 (G.r 2) G.M G.f, lD G.M G.f 1 :: lD G.M G.f 2 :: G.ds⟩
  | 9 => ⟨sF G.J (G.r 0) G.f G.M, pC 1 (G.r 1) G.M G.f, pB 2 (G.r 2) G.M G.f, lD G.M G.f 2 :: G.ds⟩
  | k + 10 => ⟨sF G.J (G.r 0) G.f G.M, pC 1 (G.r 1) G.M G.f, pC 2 (G.r 2) G.M G.f, G.ds.drop k⟩

/-- The three turns in their world. -/
structure Env3 (w : World) (ts : Nat → Nat) (q : Stg) : Prop where
  a : TEnv w (ts 0) q.a
  b : TEnv w (ts 1) q.b
  c : TEnv w (ts 2) q.c
def Ne3 (ts : Nat → Nat) : Prop := ts 0 ≠ ts 1 ∧ ts 0 ≠ ts 2 ∧ ts 1 ≠ ts 2
theorem Env3.mod {w w' : World} {ts : Nat → Nat} {q : Stg} {S : List Nat} (h : Env3 w ts q) (hM : Mod S w w') (h0 : ts 0 ∉ S) (h1 : ts 1 ∉ S) (h2 : ts 2 ∉ S) (hg : 1 ∉ S) : Env3 w' ts q :=
  ⟨h.a.mod hM h0 hg, h.b.mod hM h1 hg, h.c.mod hM h2 hg⟩
theorem Env3.mod0 {w w' : World} {ts : Nat → Nat} {q : Stg} (h : Env3 w ts q) (hM : Mod [] w w') : Env3 w' ts q := h.mod hM (by simp) (by simp) (by simp) (by simp)

def HearPost (w : World) (ts : Nat → Nat) (q : Stg) (rest : List Let) (e : Ending) (w' : World) : Prop :=
  ∃ v L, e = .returned (.tuple #[v, .int .i64 0]) ∧ Lets w' w.heap.size v L ∧ Env3 w' ts q ∧ q.net = rest ++ L ∧ Mod [ts 0, ts 1, ts 2] w w'

theorem hearT0 {w : World} {ts : Nat → Nat} {q q' : Stg} {L rest : List Let} {args : Array Value} (hne : Ne3 ts) (h : Env3 w ts q) (H : Gives (ts 0) q.a q'.a L 0 9 args) (hb : q'.b = q.b) (hc : q'.c = q.c) (hn : q'.net = rest ++ L) : Calls Tryz.prog 9 args w (HearPost w ts q' rest) := by
  refine (H w h.a).mono ?_
  rintro _ w' ⟨v, rfl, hL, _, hT, hM⟩
  refine ⟨v, L, rfl, hL, ⟨hT, ?_, ?_⟩, hn, hM.mono (fun k _ hk => by simp at hk; simp [hk])⟩
  · rw [hb]; exact h.b.mod hM (by simpa using hne.1.symm) (by simpa using h.a.2.2.symm)
  · rw [hc]; exact h.c.mod hM (by simpa using hne.2.1.symm) (by simpa using h.a.2.2.symm)
theorem hearT1 {w : World} {ts : Nat → Nat} {q q' : Stg} {L rest : List Let} {args : Array Value} (hne : Ne3 ts) (h : Env3 w ts q) (H : Gives (ts 1) q.b q'.b L 0 9 args) (hb : q'.a = q.a) (hc : q'.c = q.c) (hn : q'.net = rest ++ L) : Calls Tryz.prog 9 args w (HearPost w ts q' rest) := by
  refine (H w h.b).mono ?_
  rintro _ w' ⟨v, rfl, hL, _, hT, hM⟩
  refine ⟨v, L, rfl, hL, ⟨?_, hT, ?_⟩, hn, hM.mono (fun k _ hk => by simp at hk; simp [hk])⟩
  · rw [hb]; exact h.a.mod hM (by simpa using hne.1) (by simpa using h.b.2.2.symm)
  · rw [hc]; exact h.c.mod hM (by simpa using hne.2.2.symm) (by simpa using h.b.2.2.symm)
theorem hearT2 {w : World} {ts : Nat → Nat} {q q' : Stg} {L rest : List Let} {args : Array Value} (hne : Ne3 ts) (h : Env3 w ts q) (H : Gives (ts 2) q.c q'.c L 0 9 args) (hb : q'.a = q.a) (hc : q'.b = q.b) (hn : q'.net = rest ++ L) : Calls Tryz.prog 9 args w (HearPost w ts q' rest) := by
  refine (H w h.c).mono ?_
  rintro _ w' ⟨v, rfl, hL, _, hT, hM⟩
  refine ⟨v, L, rfl, hL, ⟨?_, ?_, hT⟩, hn, hM.mono (fun k _ hk => by simp at hk; simp [hk])⟩
  · rw [hb]; exact h.a.mod hM (by simpa using hne.2.1) (by simpa using h.c.2.2.symm)
  · rw [hc]; exact h.b.mod hM (by simpa using hne.2.2) (by simpa using h.c.2.2.symm)

/-- A letter is heard by whom it is sent to. -/
theorem stage_hear {w : World} {ts : Nat → Nat} {G : Giv} (hG : GivOk G) (hne : Ne3 ts) (n : Nat) (x : Let) (rest : List Let) (h : Env3 w ts (G.stg n)) (hnet : (G.stg n).net = x :: rest) (hx : x.to' < 3) :
    Calls Tryz.prog 9 #[.pointer (some ⟨ts x.to', 0, none⟩), .agg x.v, .int .u64 (G.r x.to')] w (HearPost w ts (G.stg (n + 1)) rest) := by
  match n, hnet, h with
  | 0, hnet, h => cases hnet; exact hearT1 hne h (prep_other (ts 1) 1 (G.r 1) (.inl rfl)) rfl rfl rfl
  | 1, hnet, h => cases hnet; exact hearT2 hne h (prep_other (ts 2) 2 (G.r 2) (.inr rfl)) rfl rfl rfl
  | 2, hnet, h => cases hnet; exact hearT0 hne h (promise1 (ts 0) G.J (G.r 0) (G.r 1) G.f0 hG.f0) rfl rfl rfl
  | 3, hnet, h => cases hnet; exact hearT0 hne h (promise2 (ts 0) G.J (G.r 0) (G.r 2) G.f0 G.f G.M hG.f hG.m) rfl rfl rfl
  | 4, hnet, h => cases hnet; exact hearT1 hne h (acc_other (ts 1) 1 (G.r 1) G.M G.f (.inl rfl)) rfl rfl rfl
  | 5, hnet, h => cases hnet; exact hearT2 hne h (acc_other (ts 2) 2 (G.r 2) G.M G.f (.inr rfl)) rfl rfl rfl
  | 6, hnet, h => cases hnet; exact hearT0 hne h (took1 (ts 0) G.J (G.r 0) G.f G.M G.js hG.bits hG.len hG.all hG.l1 hG.l7) rfl rfl rfl
  | 7, hnet, h => cases hnet; exact hearT0 hne h (took2 (ts 0) G.J (G.r 0) G.f G.M) rfl rfl (by simp [Giv.stg])
  | 8, hnet, h => cases hnet; exact hearT1 hne h (dec_other (ts 1) 1 (G.r 1) G.M G.f (.inl rfl)) rfl rfl (by simp [Giv.stg])
  | 9, hnet, h => cases hnet; exact hearT2 hne h (dec_other (ts 2) 2 (G.r 2) G.M G.f (.inr rfl)) rfl rfl (by simp [Giv.stg])
  | k + 10, hnet, h =>
    exfalso
    have hm : x ∈ G.ds := List.mem_of_mem_drop (show x ∈ G.ds.drop k by
      have : G.ds.drop k = x :: rest := hnet
      rw [this]
      simp)
    obtain ⟨y, hy, rfl⟩ := List.mem_map.1 hm
    have h1 := hG.all y hy
    have h2 : y.toNat < 3 := hx
    omega
/-- A letter to one who joins is let go. -/
theorem stage_skip {G : Giv} (hG : GivOk G) (n : Nat) (x : Let) (rest : List Let) (hnet : (G.stg n).net = x :: rest) (hx : ¬ x.to' < 3) : G.stg (n + 1) = ⟨(G.stg n).a, (G.stg n).b, (G.stg n).c, rest⟩ := by
  match n, hnet with
  | 0, hnet => cases hnet; exact absurd (show 1 < 3 by decide) hx
  | 1, hnet => cases hnet; exact absurd (show 2 < 3 by decide) hx
  | 2, hnet => cases hnet; exact absurd (show 0 < 3 by decide) hx
  | 3, hnet => cases hnet; exact absurd (show 0 < 3 by decide) hx
  | 4, hnet => cases hnet; exact absurd (show 1 < 3 by decide) hx
  | 5, hnet => cases hnet; exact absurd (show 2 < 3 by decide) hx
  | 6, hnet => cases hnet; exact absurd (show 0 < 3 by decide) hx
  | 7, hnet => cases hnet; exact absurd (show 0 < 3 by decide) hx
  | 8, hnet => cases hnet; exact absurd (show 1 < 3 by decide) hx
  | 9, hnet => cases hnet; exact absurd (show 2 < 3 by decide) hx
  | k + 10, hnet =>
    have h1 : G.ds.drop k = x :: rest := hnet
    have h2 : G.ds.drop (k + 1) = rest := by
      rw [← List.drop_drop, h1]
      rfl
    show (⟨_, _, _, G.ds.drop (k + 1)⟩ : Stg) = ⟨_, _, _, rest⟩
    rw [h2]
    rfl
theorem stage_more {G : Giv} (n : Nat) (x : Let) (rest : List Let) (hn : n ≤ 10 + G.js.length) (hnet : (G.stg n).net = x :: rest) : n + 1 ≤ 10 + G.js.length := by
  rcases Nat.lt_or_ge n 10 with h | h
  · omega
  · obtain ⟨k, rfl⟩ : ∃ k, n = k + 10 := ⟨n - 10, by omega⟩
    have h1 : G.ds.drop k = x :: rest := hnet
    have h2 : k < G.ds.length := by
      rcases Nat.lt_or_ge k G.ds.length with h3 | h3
      · exact h3
      · rw [List.drop_eq_nil_of_le h3] at h1; cases h1
    have h3 : G.ds.length = G.js.length := List.length_map _
    omega
theorem stage_end {G : Giv} (n : Nat) (hn : n ≤ 10 + G.js.length) (hnet : (G.stg n).net = []) : (G.stg n).a = sF G.J (G.r 0) G.f G.M ∧ (G.stg n).b = pC 1 (G.r 1) G.M G.f ∧ (G.stg n).c = pC 2 (G.r 2) G.M G.f := by
  match n, hnet with
  | 0, hnet => cases hnet
  | 1, hnet => cases hnet
  | 2, hnet => cases hnet
  | 3, hnet => cases hnet
  | 4, hnet => cases hnet
  | 5, hnet => cases hnet
  | 6, hnet => cases hnet
  | 7, hnet => cases hnet
  | 8, hnet => cases hnet
  | 9, hnet => cases hnet
  | k + 10, hnet => exact ⟨rfl, rfl, rfl⟩
theorem stage_len {G : Giv} (hG : GivOk G) (n : Nat) : (G.stg n).net.length ≤ 20 := by
  have hd : G.ds.length ≤ 8 := by
    have : G.ds.length = G.js.length := List.length_map _
    have := hG.len
    omega
  match n with
  | 0 => simp [Giv.stg]
  | 1 => simp [Giv.stg]
  | 2 => simp [Giv.stg]
  | 3 => simp [Giv.stg]
  | 4 => simp [Giv.stg]
  | 5 => simp [Giv.stg]
  | 6 => simp [Giv.stg]
  | 7 => simp [Giv.stg]; omega
  | 8 => simp [Giv.stg]; omega
  | 9 => simp [Giv.stg]; omega
  | k + 10 => simp [Giv.stg]; omega

end Go.Proofs.YtaaaiggbnkeblaaGreatDoor

namespace Go.Proofs.YtaaaiggbnkeblaaGreatDoor
set_option linter.unusedSimpArgs false
set_option linter.unusedVariables false
open Go.RowKit

/-- Letters in a row of one's own that is there. -/
structure Row (w : World) (B g cap : Nat) (L : List Let) : Prop where
  base : B ≤ g
  lt : g < w.heap.size
  le : L.length ≤ cap
  max : cap ≤ maxLen
  own : Lets w B (.slice (some ⟨g, 0, none⟩) L.length cap) L
theorem Row.of {w : World} {B : Nat} {v : Value} {L : List Let} (h : Lets w B v L) (hv : v ≠ .slice none 0 0) : ∃ g cap, v = .slice (some ⟨g, 0, none⟩) L.length cap ∧ Row w B g cap L := by
  have h' := h
  obtain ⟨hl, h⟩ := h
  rcases h with ⟨rfl, h0⟩ | ⟨g, cap, cur, rfl, hB, hg, h1, h2, h3, h4⟩
  · exact absurd rfl hv
  · exact ⟨g, cap, rfl, hB, (Array.getElem?_eq_some_iff.1 hg).1, h1, h2, h'⟩
theorem Row.cells {w : World} {B g cap : Nat} {L : List Let} (h : Row w B g cap L) : ∀ j u, (lflat L)[j]? = some u → w.cell? ⟨g, j, none⟩ = some u := ownsRow_cells h.own
theorem Row.mod {w w' : World} {B g cap : Nat} {L : List Let} {S : List Nat} (h : Row w B g cap L) (hM : Mod S w w') (hs : ∀ x ∈ S, x < B) : Row w' B g cap L :=
  ⟨h.base, Nat.lt_of_lt_of_le h.lt hM.size, h.le, h.max, h.own.mod hM hs⟩
theorem lflat_cons (l : Let) (L : List Let) : lflat (l :: L) = l.v.toList ++ lflat L := by simp [lflat]
/-- append of letters onto a row that is there. -/
theorem row_append (w : World) (B g cap : Nat) (x : Value) (L M : List Let) (hv : Row w B g cap L) (hx : LRead w x M) (hlen : L.length + M.length ≤ 1000) (hB : B ≤ w.heap.size) :
    ∃ g' cap' w', (Builtin.append_ #[30, 30] 30 #[.slice (some ⟨g, 0, none⟩) L.length cap, x]).run Tryz.prog w = .ok (.slice (some ⟨g', 0, none⟩) (L ++ M).length cap') w' ∧ Row w' B g' cap' (L ++ M) ∧ Mod [g] w w' := by
  obtain ⟨il, hil, hlz, hls, hlb⟩ := infoLetter
  rcases hx with ⟨rfl, rfl⟩ | ⟨ad, c, rfl, hx⟩
  · refine ⟨g, cap, w, ?_, ?_, Mod.refl _ _⟩
    · have := run_append_owned_none (P := Tryz.prog) (w := w) B 30 30 42 il 16 Tryz.underlying30 hil (.slice (some ⟨g, 0, none⟩) L.length cap) L.length _ hv.own
      rw [List.append_nil]
      exact this
    · rw [List.append_nil]
      exact hv
  · have hby : (L.length + M.length) * il.bytes ≤ 140737488355328 := by
      have := Nat.mul_le_mul hlen hlb
      omega
    obtain ⟨v', w', hr, h2, h3, h4, _⟩ := run_append_own_at (P := Tryz.prog) w B 30 30 42 il letZ 16 il.bytes Tryz.underlying30 hil hlz hls rfl rfl (by decide) (.slice (some ⟨g, 0, none⟩) L.length cap) L.length _ hv.own ad M.length c (lflat M) (lflat_len M) hx (lflat_one M) (by unfold maxLen; omega) hby hB
    have hL : Lets w' B v' (L ++ M) := by
      unfold Lets
      rw [List.length_append, lflat_append]
      exact h2
    obtain ⟨g', cap', rfl, hR⟩ := Row.of hL (fun e => by cases (h4.1 e).1)
    refine ⟨g', cap', w', hr, hR, ?_⟩
    exact (Mod.refl [g] w).grownRow h3 (fun b hb => by
      left
      have : g = b := by simpa [Value.ownBlock] using hb
      simp [this])

/-- What holds at the head of the loop. -/
structure ChoRel (w : World) (B : Nat) (ts : Nat → Nat) (G : Giv) (g3 p : Nat) (o3 op : Obj) (n : Nat) (v : Value) (wr : World) : Prop where
  hn : n ≤ 10 + G.js.length
  row : ∃ g cap, v = .slice (some ⟨g, 0, none⟩) (G.stg n).net.length cap ∧ Row wr B g cap (G.stg n).net
  env : Env3 wr ts (G.stg n)
  r3 : wr.heap[g3]? = some o3
  rp : wr.heap[p]? = some op
  mod : Mod [] w wr

/-- The letters behind the first, as they are read. -/
theorem Row.tail {w : World} {B g cap : Nat} {x : Let} {rest : List Let} (h : Row w B g cap (x :: rest)) (c : Nat) : LRead w (.slice (some ⟨g, 16, none⟩) rest.length c) rest := by
  refine .inr ⟨⟨g, 16, none⟩, c, rfl, fun j u hj => ?_⟩
  rw [add_lit]
  refine h.cells (16 + j) u ?_
  rw [lflat_cons, List.getElem?_append_right (by simp [Let.v])]
  have : 16 + j - x.v.toList.length = j := by
    have h16 : x.v.toList.length = 16 := rfl
    omega
  rw [this]
  exact hj
theorem Row.tail1 {w : World} {B g cap m : Nat} {x : Let} {rest : List Let} (h : Row w B g cap (x :: rest)) (hm : (x :: rest).length = m) : LRead w (.slice (if cap = 1 then some ⟨g, 0, none⟩ else some ⟨g, 16, none⟩) (m - 1) (cap - 1)) rest := by
  have hm1 : m - 1 = rest.length := by rw [← hm]; rfl
  rw [hm1]
  by_cases hc : cap = 1
  · have hle := h.le
    rw [hc] at hle
    have h0 : rest = [] := by
      cases rest with
      | nil => rfl
      | cons y l => simp at hle
    subst h0
    rw [if_pos hc]
    exact .inr ⟨_, _, rfl, fun j u hj => by simp [lflat] at hj⟩
  · rw [if_neg hc]
    exact h.tail _
/-- A row of none. -/
theorem row_none (w : World) (B : Nat) (hB : B ≤ w.heap.size) : Row (w.alloc (.cells #[] 42)) B w.heap.size 0 [] :=
  ⟨hB, by simp, Nat.le_refl _, Nat.zero_le _, ⟨rfl, .inr ⟨w.heap.size, 0, #[], rfl, hB, heap_new _ _, Nat.le_refl _, Nat.zero_le _, rfl, rfl⟩⟩⟩

set_option maxRecDepth 100000 in
set_option maxHeartbeats 2000000 in
theorem decided_s (t : Nat) (s : TS) (w : World) (h : TEnv w t s) :
    Calls Tryz.prog 10 #[.pointer (some ⟨t, 0, none⟩)] w fun e w' => e = .returned (.tuple #[.agg #[.int .u64 s.vm, .int .u64 s.vc], .bool s.done]) ∧ Mod [] w w' := by
  have htl : t ≠ w.heap.size := Nat.ne_of_lt h.1.lt
  have hm := (Mod.refl [] w).alloc (.cells #[.int .u64 0, .int .u64 0] 45)
  have HM := Lib.hid hm
  have HROW := Lib.hid (heap_new w (.cells #[.int .u64 0, .int .u64 0] 45))
  have k1 := hm.at h.1.k211 (by simp)
  have k2 := hm.at h.1.k212 (by simp)
  have k3 := hm.at h.1.k213 (by simp)
  clear h hm
  go_enter Tryz.func10, Tryz.ntmps10
  go_wp2_with fail
  generalize w.alloc (.cells #[.int .u64 0, .int .u64 0] 45) = W at HM HROW k1 k2 k3 ⊢
  obtain ⟨q, hq⟩ : ∃ q, w.heap.size = q := ⟨_, rfl⟩
  rw [hq] at HROW htl ⊢
  have HQ := Lib.hid hq
  clear hq
  have z0 := cell_in HROW.out (show (#[Value.int .u64 0, .int .u64 0] : Array Value)[0]? = some (.int .u64 0) from rfl)
  have z1 := cell_in HROW.out (show (#[Value.int .u64 0, .int .u64 0] : Array Value)[1]? = some (.int .u64 0) from rfl)
  have f0 := free_in (j := 0) HROW.out
  have f1 := free_in (j := 1) HROW.out
  go_region
  all_goals
    have hrow : (((W.setCell ⟨q, 0, none⟩ (.int .u64 s.vm)).setCell ⟨q, 1, none⟩ (.int .u64 s.vc)).drew).heap[q]? = some (.cells #[.int .u64 s.vm, .int .u64 s.vc] 45 (0, 0)) := by
      simp [World.setCell, World.drew, World.drewN, Array.getElem?_modify, HROW.out]
    have hMe : Mod [q] W (((W.setCell ⟨q, 0, none⟩ (.int .u64 s.vm)).setCell ⟨q, 1, none⟩ (.int .u64 s.vc)).drew) := (((Mod.refl [q] W).setCell (.inl (by simp)) _).setCell (.inl (by simp)) _).drew
    have hMF := HM.out.step hMe (fun x hx => .inr (by simp at hx; have := HQ.out; omega))
    go_wp2_with fail
    refine bodyPost_ret (results_row_tmp rfl _ _ q 45 _ (0, 0) _ rfl hrow Tryz.underlying45 rfl Tryz.size_choiceQ) rfl ?_
    exact ⟨rfl, hMF⟩

end Go.Proofs.YtaaaiggbnkeblaaGreatDoor

namespace Go.Proofs.YtaaaiggbnkeblaaGreatDoor
set_option linter.unusedSimpArgs false
set_option linter.unusedVariables false
open Go.RowKit

theorem max3_det (P : Program) (x y z : Int) : ∃ g : Int, g = (if (if x < y then y else x) < z then z else (if x < y then y else x)) ∧ ∀ (a : Array TypeId) (t : TypeId) (w : World), (Builtin.max_ a t #[.int .u8 x, .int .u8 y, .int .u8 z]).run P w = .ok (.int .u8 g) w := by
  refine ⟨_, rfl, fun a t w => ?_⟩
  by_cases h1 : x < y
  · by_cases h2 : y < z
    · simp [Builtin.max_, Builtin.max2, h1, h2, Sem.run_bind, Result.andThen]
    · simp [Builtin.max_, Builtin.max2, h1, h2, Sem.run_bind, Result.andThen]
  · by_cases h2 : x < z
    · simp [Builtin.max_, Builtin.max2, h1, h2, Sem.run_bind, Result.andThen]
    · simp [Builtin.max_, Builtin.max2, h1, h2, Sem.run_bind, Result.andThen]

set_option maxRecDepth 100000 in
set_option maxHeartbeats 16000000 in
theorem walk_TopChoice (w : World) (a b c : Nat) (ha : a < 256) (hb : b < 256) (hc : c < 256) (j : Nat) (hj : j < 256) (ht : Tab w) :
    Calls Tryz.prog 3 #[.agg #[.int .u8 a, .int .u8 b, .int .u8 c], .int .u8 j] w (TruePost w) := by
  have hpn : ∀ (a : Addr) (w : World), (binOp .eql 26 (.pointer (some a)) (.pointer none)).run Tryz.prog w = .ok (.bool false) w := fun a w => by kernel_rfl
  have hm0 := (Mod.refl [] w).alloc (.cells #[.int .u8 a, .int .u8 b, .int .u8 c] 22)
  have HROW := Lib.hid (heap_new w (.cells #[.int .u8 a, .int .u8 b, .int .u8 c] 22))
  have HM0 := Lib.hid hm0
  have HT := Lib.hid ht
  have HAB := Lib.hid (And.intro ha (And.intro hb (And.intro hc hj)))
  clear hm0 ht ha hb hc hj
  have HN0 := Lib.hid (fun w => show Calls Tryz.prog 5 #[.int .i64 0, .agg #[.int .u64 4, .int .u64 7]] w (TurnNew w 0 4 7) from turn_new 0 4 7 w (by decide) (by decide) (by decide))
  have HN1 := Lib.hid (fun w => show Calls Tryz.prog 5 #[.int .i64 1, .agg #[.int .u64 4, .int .u64 7]] w (TurnNew w 1 4 7) from turn_new 1 4 7 w (by decide) (by decide) (by decide))
  have HN2 := Lib.hid (fun w => show Calls Tryz.prog 5 #[.int .i64 2, .agg #[.int .u64 4, .int .u64 7]] w (TurnNew w 2 4 7) from turn_new 2 4 7 w (by decide) (by decide) (by decide))
  go_enter Tryz.func3, Tryz.ntmps3
  go_wp2_with fail
  have hmW := (HM0.out).alloc (.cells #[.int .u64 4, .int .u64 7] 25)
  have hrp := row_mod ((Mod.refl [] (w.alloc (.cells #[.int .u8 a, .int .u8 b, .int .u8 c] 22))).alloc (.cells #[.int .u64 4, .int .u64 7] 25)) HROW.out (by simp)
  have hrv : ((w.alloc (.cells #[.int .u8 a, .int .u8 b, .int .u8 c] 22)).alloc (.cells #[.int .u64 4, .int .u64 7] 25)).heap[w.heap.size + 1]? = some (.cells #[.int .u64 4, .int .u64 7] 25 (0, 0)) := by
    have := heap_new (w.alloc (.cells #[.int .u8 a, .int .u8 b, .int .u8 c] 22)) (.cells #[.int .u64 4, .int .u64 7] 25)
    simpa using this
  have HMW := Lib.hid hmW
  have HRP := Lib.hid hrp
  have v0 := cell_in hrv (show (#[Value.int .u64 4, .int .u64 7] : Array Value)[0]? = some (.int .u64 4) from rfl)
  have v1 := cell_in hrv (show (#[Value.int .u64 4, .int .u64 7] : Array Value)[1]? = some (.int .u64 7) from rfl)
  clear hmW hrp hrv HROW HM0
  generalize (w.alloc (.cells #[.int .u8 a, .int .u8 b, .int .u8 c] 22)).alloc (.cells #[.int .u64 4, .int .u64 7] 25) = W at HMW HRP v0 v1 ⊢
  obtain ⟨p, hp⟩ : ∃ p, w.heap.size = p := ⟨_, rfl⟩
  rw [hp] at HRP v0 v1 ⊢
  have HPE := Lib.hid hp
  clear hp
  go_cut [6] (fun s6 wx => ∃ t0 t1 t2 g3, s6 = .slice (some ⟨g3, 0, none⟩) 3 3 ∧ wx.heap[g3]? = some (.cells #[.pointer (some ⟨t0, 0, none⟩), .pointer (some ⟨t1, 0, none⟩), .pointer (some ⟨t2, 0, none⟩)] 26 (0, 0)) ∧ Turn0 wx t0 0 4 7 ∧ Turn0 wx t1 1 4 7 ∧ Turn0 wx t2 2 4 7 ∧ (W.heap.size ≤ t0 ∧ t0 < t1 ∧ t1 < t2 ∧ t2 < g3) ∧ Mod [] W wx)
  case first =>
    go_region_held3 (fun w' => w'.cell? ⟨p + 1, 0, none⟩ = some (.int .u64 4) ∧ w'.cell? ⟨p + 1, 1, none⟩ = some (.int .u64 7)) (first | exact ⟨v0, v1⟩ | exact ⟨HM5.out.at v0 (by simp), HM5.out.at v1 (by simp)⟩ | exact ⟨HM6.out.at v0 (by simp), HM6.out.at v1 (by simp)⟩ | exact ⟨HM7.out.at v0 (by simp), HM7.out.at v1 (by simp)⟩ | exact ⟨(HM7.out.alloc _).at v0 (by simp), (HM7.out.alloc _).at v1 (by simp)⟩) ((first | (go_at_call 5; (with_reducible refine (HN0.out _).mono ?_); rintro _ w5 ⟨t0, rfl, hT0, hs0, hM5⟩; have HM5 := Lib.hid ((Mod.refl [] W).drew.trans hM5); have HT0 := Lib.hid hT0; have HS0 := Lib.hid hs0; clear hM5 hT0 hs0) | (go_at_call 5; (with_reducible refine (HN1.out _).mono ?_); rintro _ w6 ⟨t1, rfl, hT1, hs1, hM6⟩; have HM6 := Lib.hid (HM5.out.trans hM6); have HT1 := Lib.hid (And.intro (HT0.out.mod hM6 (by simp)) hT1); have HS1 := Lib.hid hs1; clear hM6 hT1 hs1) | (go_at_call 5; (with_reducible refine (HN2.out _).mono ?_); rintro _ w7 ⟨t2, rfl, hT2, hs2, hM7⟩; have HM7 := Lib.hid (HM6.out.trans hM7); have HT2 := Lib.hid (And.intro (HT1.out.1.mod hM7 (by simp)) (And.intro (HT1.out.2.mod hM7 (by simp)) hT2)); have HS2 := Lib.hid hs2; clear hM7 hT2 hs2)))
    all_goals go_wp2_with fail
    all_goals go_meet
    case rel =>
      have hma := (Mod.refl [] w7).alloc (.cells #[.pointer (some ⟨t0, 0, none⟩), .pointer (some ⟨t1, 0, none⟩), .pointer (some ⟨t2, 0, none⟩)] 26)
      have l0 := HT0.out.lt
      have l1 := HT1.out.2.lt
      have l2 := HT2.out.2.2.lt
      have hs0 : W.heap.size ≤ t0 := HS0.out
      have hs1 := HS1.out
      have hs2 := HS2.out
      exact ⟨t0, t1, t2, w7.heap.size, rfl, heap_new _ _, HT2.out.1.mod hma (by simp), HT2.out.2.1.mod hma (by simp), HT2.out.2.2.mod hma (by simp), ⟨hs0, by omega, by omega, l2⟩, HM7.out.alloc _⟩
  obtain ⟨t0, t1, t2, g3, rfl, hr3, hT0, hT1, hT2, hord, hMx⟩ := hcut
  have p0 := cell_in hr3 (show (#[Value.pointer (some ⟨t0, 0, none⟩), .pointer (some ⟨t1, 0, none⟩), .pointer (some ⟨t2, 0, none⟩)] : Array Value)[0]? = some (.pointer (some ⟨t0, 0, none⟩)) from rfl)
  have p1 := cell_in hr3 (show (#[Value.pointer (some ⟨t0, 0, none⟩), .pointer (some ⟨t1, 0, none⟩), .pointer (some ⟨t2, 0, none⟩)] : Array Value)[1]? = some (.pointer (some ⟨t1, 0, none⟩)) from rfl)
  have p2 := cell_in hr3 (show (#[Value.pointer (some ⟨t0, 0, none⟩), .pointer (some ⟨t1, 0, none⟩), .pointer (some ⟨t2, 0, none⟩)] : Array Value)[2]? = some (.pointer (some ⟨t2, 0, none⟩)) from rfl)
  have HR3 := Lib.hid hr3
  have HTS := Lib.hid (And.intro hT0 (And.intro hT1 hT2))
  have HORD := Lib.hid (show w.heap.size ≤ t0 ∧ t0 < t1 ∧ t1 < t2 ∧ t2 < g3 ∧ p < t0 from by
    have h1 := HMW.out.size
    have h2 := (Array.getElem?_eq_some_iff.1 HRP.out).1
    exact ⟨by omega, hord.2.1, hord.2.2.1, hord.2.2.2, by omega⟩)
  have HRP2 := Lib.hid (row_mod hMx HRP.out (by simp))
  have HM2 := Lib.hid (HMW.out.trans hMx)
  clear hr3 hT0 hT1 hT2 hord hMx HRP HMW v0 v1 HN0 HN1 HN2
  go_wp2_with fail
  refine (shown_is _ (HT.out.mod HM2.out (by simp))).mono ?_
  rintro _ w3 ⟨rfl, hM3⟩
  have HM3 := Lib.hid (HM2.out.trans hM3)
  have HRP3 := Lib.hid (row_mod hM3 HRP2.out (by simp))
  have HR33 := Lib.hid (row_mod hM3 HR3.out (by simp))
  have HTS3 := Lib.hid (And.intro (HTS.out.1.mod hM3 (by simp)) (And.intro (HTS.out.2.1.mod hM3 (by simp)) (HTS.out.2.2.mod hM3 (by simp))))
  clear hM3 HM2 HRP2 HR3 HTS p0 p1 p2
  go_wp2_with fail
  obtain ⟨js, hbits, hjl, hja, hj1, hj7⟩ := joins_bits j HAB.out.2.2.2
  have hwj : IntKind.u64.wrap (j : Int) = j := IntWalk.u64_in _ ⟨by omega, by have := HAB.out.2.2.2; omega⟩
  have hshl : IntKind.u64.wrap ((j : Int) * 8) = 8 * (j : Int) := by
    have := HAB.out.2.2.2
    rw [IntWalk.u64_in ((j : Int) * 8) ⟨by omega, by omega⟩]
    omega
  obtain ⟨J, hJ⟩ : ∃ J : Int, 8 * (j : Int) = J := ⟨_, rfl⟩
  rw [hJ] at hbits hj1 hj7 hshl
  have HJ7 := Lib.hid hj7
  obtain ⟨A, hA⟩ : ∃ A : Int, (a : Int) = A := ⟨_, rfl⟩
  have hA0 : 0 ≤ A := by omega
  have hwa : IntKind.u64.wrap A = A := IntWalk.u64_in _ ⟨by omega, by have := HAB.out.1; omega⟩
  have p0 := cell_in HR33.out (show (#[Value.pointer (some ⟨t0, 0, none⟩), .pointer (some ⟨t1, 0, none⟩), .pointer (some ⟨t2, 0, none⟩)] : Array Value)[0]? = some (.pointer (some ⟨t0, 0, none⟩)) from rfl)
  have x0 := cell_in HRP3.out (show (#[Value.int .u8 a, .int .u8 b, .int .u8 c] : Array Value)[0]? = some (.int .u8 a) from rfl)
  rw [hA] at x0
  have HTE := Lib.hid (show TEnv w3 t0 (TS.zero 0) from ⟨Turn0.at_ 0 0 turn_list0 HTS3.out.1, HT.out.mod HM3.out (by simp), fun e => by have h1 := HT.out.1; have h2 := HORD.out.1; omega⟩)
  have HBG := Lib.hid (begin_all t0 J A hA0 _ (HTE.out.mod0 (Mod.refl [] _).drew))
  have HJS := Lib.hid (And.intro hbits (And.intro hjl (And.intro hja (And.intro hj1 (And.intro hj7 hJ)))))
  have HAA := Lib.hid (And.intro hA hA0)
  clear hbits hjl hja hj1 hj7 hJ hA hA0
  have hg3t : g3 ≠ t0 := by have := HORD.out; omega
  have hpt : p ≠ t0 := by have := HORD.out; omega
  go_region_held3 (fun w' => w'.cell? ⟨g3, 0, none⟩ = some (.pointer (some ⟨t0, 0, none⟩)) ∧ w'.cell? ⟨p, 0, none⟩ = some (.int .u8 A)) (first | exact ⟨p0, x0⟩ | exact ⟨HO5.out.2.2.2.at p0 (by simpa using hg3t), HO5.out.2.2.2.at x0 (by simpa using hpt)⟩) ((go_at_call 7; (with_reducible refine HBG.out.mono ?_); rintro _ w5 ⟨v, rfl, hO⟩; have HO5 := Lib.hid hO; clear hO))
  obtain ⟨hL5, _, hT5, hM5⟩ := HO5.out
  obtain ⟨g5, c5, rfl, hg5, hg5'⟩ := hL5.form (by decide)
  have hcs := ownsRow_cells hL5
  have y8 := hcs 8 (.int .u64 65) rfl
  have HM5 := Lib.hid (show Mod [] w w5 from HM3.out.drew.step hM5 (fun x hx => .inr (by simp at hx; have := HORD.out; omega)))
  have HM35 := Lib.hid (show Mod [t0] w3 w5 from (Mod.refl [t0] w3).drew.trans hM5)
  have HL5 := Lib.hid hL5
  have HT5 := Lib.hid hT5
  clear hL5 hT5 hM5 hcs hg5 hg5' p0 x0 hwa HO5 HBG HTE
  go_wp2_with fail
  refine (number_one _).mono ?_
  rintro _ w6 ⟨rfl, rfl⟩
  go_wp2_with fail
  obtain ⟨G, hG, hGr, hGJ⟩ : ∃ G : Giv, GivOk G ∧ (G.r 0 = a ∧ G.r 1 = b ∧ G.r 2 = c) ∧ (G.J = J ∧ G.M = bits .or .u64 7 J ∧ G.f = (if (if (a : Int) < b then (b : Int) else a) < c then (c : Int) else (if (a : Int) < b then (b : Int) else a)) ∧ G.js = js) :=
    ⟨⟨fun k => if k = 0 then a else if k = 1 then b else c, J, bits .or .u64 7 J, (if (a : Int) < b then (b : Int) else a), (if (if (a : Int) < b then (b : Int) else a) < c then (c : Int) else (if (a : Int) < b then (b : Int) else a)), js⟩,
      ⟨by simp, rfl, rfl, rfl, HJS.out.1, HJS.out.2.1, HJS.out.2.2.1, HJS.out.2.2.2.1, by show bits .andNot .u64 (bits .or .u64 7 J) 7 = J; exact HJ7.out⟩, ⟨rfl, rfl, rfl⟩, ⟨rfl, rfl, rfl, rfl⟩⟩
  obtain ⟨ts, hts0, hts1, hts2⟩ : ∃ ts : Nat → Nat, ts 0 = t0 ∧ ts 1 = t1 ∧ ts 2 = t2 := ⟨fun k => if k = 0 then t0 else if k = 1 then t1 else t2, rfl, rfl, rfl⟩
  have hne : Ne3 ts := by
    unfold Ne3
    rw [hts0, hts1, hts2]
    have := HORD.out
    omega
  have hrel0 : ChoRel w w3.heap.size ts G g3 p (.cells #[.pointer (some ⟨t0, 0, none⟩), .pointer (some ⟨t1, 0, none⟩), .pointer (some ⟨t2, 0, none⟩)] 26 (0, 0)) (.cells #[.int .u8 a, .int .u8 b, .int .u8 c] 22 (0, 0)) 0 (.slice (some ⟨g5, 0, none⟩) 2 c5) w5 := by
    have hT1 : TEnv w3 t1 (TS.zero 1) := ⟨Turn0.at_ 1 1 turn_list1 HTS3.out.2.1, HT.out.mod HM3.out (by simp), fun e => by have h1 := HT.out.1; have h2 := HORD.out.1; have h3 := HORD.out.2.1; omega⟩
    have hT2 : TEnv w3 t2 (TS.zero 2) := ⟨Turn0.at_ 2 2 turn_list2 HTS3.out.2.2, HT.out.mod HM3.out (by simp), fun e => by have h1 := HT.out.1; have h2 := HORD.out; omega⟩
    have hgt : 1 ∉ [t0] := by have h1 := HT.out.1; have h2 := HORD.out.1; simp; omega
    obtain ⟨g', cap', he, hR⟩ := Row.of (show Lets w5 w3.heap.size (.slice (some ⟨g5, 0, none⟩) 2 c5) [lP 1, lP 2] from HL5.out) (by simp)
    have hT5 := HT5.out
    rw [← hGJ.1, ← HAA.out.1, ← hGr.1] at hT5
    exact ⟨by omega, ⟨g', cap', he, hR⟩, ⟨by rw [hts0]; exact hT5, by rw [hts1]; exact hT1.mod HM35.out (by have := HORD.out; simp; omega) hgt, by rw [hts2]; exact hT2.mod HM35.out (by have := HORD.out; simp; omega) hgt⟩, row_mod HM35.out HR33.out (by have := HORD.out; simp; omega), row_mod HM35.out HRP3.out (by have := HORD.out; simp; omega), HM5.out⟩
  have HREL0 := Lib.hid hrel0
  have hst : ∀ (a : Addr) (x : Nat) (w : World) (m : Mode), (store a (.float .f64 x) m).run Tryz.prog w = stored Tryz.prog w a (.float .f64 x) m := fun a x w m => run_store Tryz.prog w a _ m rfl
  obtain ⟨mx, hmxe, hmx⟩ := max3_det Tryz.prog a b c
  have hmxb : 0 ≤ mx ∧ mx ≤ 255 := by
    rw [hmxe]
    have := HAB.out
    split <;> (try split) <;> omega
  have hwm : IntKind.u64.wrap mx = mx := IntWalk.u64_in _ ⟨hmxb.1, by omega⟩
  have HMX := Lib.hid (show G.f = mx from hGJ.2.2.1.trans hmxe.symm)
  clear hmxe hmxb
  have HNE := Lib.hid hne
  have HG := Lib.hid hG
  have HGG := Lib.hid (And.intro hGr hGJ)
  have HTSE := Lib.hid (And.intro hts0 (And.intro hts1 hts2))
  have HBW := Lib.hid (show t2 < w3.heap.size ∧ g3 < w3.heap.size ∧ p < w3.heap.size ∧ 1 < w3.heap.size from by
    have h1 := (Array.getElem?_eq_some_iff.1 HR33.out).1
    have h2 := (Array.getElem?_eq_some_iff.1 HRP3.out).1
    have h3 := HORD.out
    have h4 := HT.out.1
    have h5 := HM3.out.size
    exact ⟨by omega, h1, h2, by omega⟩)
  clear hrel0 hne hG hGr hGJ hts0 hts1 hts2 hg3t hpt y8 HL5 HT5 HM5 HM35
  generalize hB : w3.heap.size = B at HREL0 HBW
  clear hB
  go_loopw [7, 11] (fun s7 s11 wr => ∃ n : Nat, s11 = .int .i64 n ∧ ChoRel w B ts G g3 p (.cells #[.pointer (some ⟨t0, 0, none⟩), .pointer (some ⟨t1, 0, none⟩), .pointer (some ⟨t2, 0, none⟩)] 26 (0, 0)) (.cells #[.int .u8 a, .int .u8 b, .int .u8 c] 22 (0, 0)) n s7 wr) (fun _ i _ => 100 - (intOf i).toNat)
  case atStart => exact ⟨0, rfl, HREL0.out⟩
  case round =>
    obtain ⟨n, rfl, hrel⟩ := hrel
    obtain ⟨hn, ⟨g, cap, rfl, hrow⟩, henv, hr3, hrp, hmw⟩ := hrel
    obtain ⟨L, hL⟩ : ∃ L, (G.stg n).net = L := ⟨_, rfl⟩
    rw [hL] at hrow ⊢
    cases L with
    | nil =>
      have h0 : ([] : List Let).length = 0 := rfl
      rw [h0]
      have HEND := Lib.hid (And.intro (stage_end n hn hL) (And.intro henv (And.intro hr3 (And.intro hrp hmw))))
      have x0 := cell_in hrp (show (#[Value.int .u8 a, .int .u8 b, .int .u8 c] : Array Value)[0]? = some (.int .u8 a) from rfl)
      have x1 := cell_in hrp (show (#[Value.int .u8 a, .int .u8 b, .int .u8 c] : Array Value)[1]? = some (.int .u8 b) from rfl)
      have x2 := cell_in hrp (show (#[Value.int .u8 a, .int .u8 b, .int .u8 c] : Array Value)[2]? = some (.int .u8 c) from rfl)
      clear hn hrow henv hr3 hrp hmw hL h0
      go_wp2_with fail
      have hMq := (Mod.refl [] wr).alloc (.cells #[.int .u64 (bits .or .u64 7 J), .int .u64 mx] 45)
      have HQW := Lib.hid (heap_new wr (.cells #[.int .u64 (bits .or .u64 7 J), .int .u64 mx] 45))
      have H3W := Lib.hid (row_mod hMq HEND.out.2.2.1 (by simp))
      have HEW := HEND.out.2.1.mod0 hMq
      have HMW2 := Lib.hid (HEND.out.2.2.2.2.trans hMq)
      have hea := HEW.a
      have heb := HEW.b
      have hec := HEW.c
      rw [HEND.out.1.1, HTSE.out.1] at hea
      rw [HEND.out.1.2.1, HTSE.out.2.1] at heb
      rw [HEND.out.1.2.2, HTSE.out.2.2] at hec
      rw [HGG.out.2.2.1, HMX.out] at hea heb hec
      clear HEW hMq
      generalize wr.alloc (.cells #[.int .u64 (bits .or .u64 7 J), .int .u64 mx] 45) = W2 at HQW H3W HMW2 hea heb hec ⊢
      obtain ⟨qb, hqb⟩ : ∃ qb, wr.heap.size = qb := ⟨_, rfl⟩
      rw [hqb] at HQW ⊢
      clear hqb
      have HD0 := Lib.hid (show ∀ w2, Mod [] W2 w2 → Calls Tryz.prog 10 #[.pointer (some ⟨t0, 0, none⟩)] w2 (fun e w' => e = .returned (.tuple #[.agg #[.int .u64 (bits .or .u64 7 J), .int .u64 mx], .bool true]) ∧ Mod [] w2 w') from fun w2 h2 => decided_s t0 _ w2 (hea.mod0 h2))
      have HD1 := Lib.hid (show ∀ w2, Mod [] W2 w2 → Calls Tryz.prog 10 #[.pointer (some ⟨t1, 0, none⟩)] w2 (fun e w' => e = .returned (.tuple #[.agg #[.int .u64 (bits .or .u64 7 J), .int .u64 mx], .bool true]) ∧ Mod [] w2 w') from fun w2 h2 => decided_s t1 _ w2 (heb.mod0 h2))
      have HD2 := Lib.hid (show ∀ w2, Mod [] W2 w2 → Calls Tryz.prog 10 #[.pointer (some ⟨t2, 0, none⟩)] w2 (fun e w' => e = .returned (.tuple #[.agg #[.int .u64 (bits .or .u64 7 J), .int .u64 mx], .bool true]) ∧ Mod [] w2 w') from fun w2 h2 => decided_s t2 _ w2 (hec.mod0 h2))
      clear hea heb hec x0 x1 x2
      go_loopw [16] (fun i w2 => ∃ k : Nat, i = .int .i64 k ∧ k ≤ 3 ∧ Mod [] W2 w2) (fun i _ => 3 - (intOf i).toNat)
      case atStart => exact ⟨0, rfl, by decide, Mod.refl _ _⟩
      case round =>
        obtain ⟨k, rfl, hk, hM⟩ := hrel
        have h4 : k = 0 ∨ k = 1 ∨ k = 2 ∨ k = 3 := by omega
        clear hk
        rcases h4 with rfl | rfl | rfl | rfl
        · have ck := hM.at (cell_in H3W.out (show (#[Value.pointer (some ⟨t0, 0, none⟩), .pointer (some ⟨t1, 0, none⟩), .pointer (some ⟨t2, 0, none⟩)] : Array Value)[0]? = some (.pointer (some ⟨t0, 0, none⟩)) from rfl)) (by simp)
          have HCD := Lib.hid (HD0.out _ hM)
          have y0 := hM.at (cell_in HQW.out (show (#[Value.int .u64 (bits .or .u64 7 J), .int .u64 mx] : Array Value)[0]? = some (.int .u64 (bits .or .u64 7 J)) from rfl)) (by simp)
          have y1 := hM.at (cell_in HQW.out (show (#[Value.int .u64 (bits .or .u64 7 J), .int .u64 mx] : Array Value)[1]? = some (.int .u64 mx) from rfl)) (by simp)
          have HMR := Lib.hid hM
          have HY := Lib.hid (And.intro y0 y1)
          clear hM y0 y1
          go_wp2_with fail
          refine HCD.out.mono ?_
          rintro _ wd ⟨rfl, hMd⟩
          have HMd := Lib.hid (HMR.out.trans hMd)
          have y0 := hMd.at HY.out.1 (by simp)
          have y1 := hMd.at HY.out.2 (by simp)
          have y0' := ((Mod.refl [] wd).alloc (.cells #[.int .u64 (bits .or .u64 7 J), .int .u64 mx] 45)).at y0 (by simp)
          have y1' := ((Mod.refl [] wd).alloc (.cells #[.int .u64 (bits .or .u64 7 J), .int .u64 mx] 45)).at y1 (by simp)
          clear hMd ck
          go_wp2_with fail
          exact ⟨⟨1, rfl, by decide, HMd.out.alloc _⟩, by decide⟩
        · have ck := hM.at (cell_in H3W.out (show (#[Value.pointer (some ⟨t0, 0, none⟩), .pointer (some ⟨t1, 0, none⟩), .pointer (some ⟨t2, 0, none⟩)] : Array Value)[1]? = some (.pointer (some ⟨t1, 0, none⟩)) from rfl)) (by simp)
          have HCD := Lib.hid (HD1.out _ hM)
          have y0 := hM.at (cell_in HQW.out (show (#[Value.int .u64 (bits .or .u64 7 J), .int .u64 mx] : Array Value)[0]? = some (.int .u64 (bits .or .u64 7 J)) from rfl)) (by simp)
          have y1 := hM.at (cell_in HQW.out (show (#[Value.int .u64 (bits .or .u64 7 J), .int .u64 mx] : Array Value)[1]? = some (.int .u64 mx) from rfl)) (by simp)
          have HMR := Lib.hid hM
          have HY := Lib.hid (And.intro y0 y1)
          clear hM y0 y1
          go_wp2_with fail
          refine HCD.out.mono ?_
          rintro _ wd ⟨rfl, hMd⟩
          have HMd := Lib.hid (HMR.out.trans hMd)
          have y0 := hMd.at HY.out.1 (by simp)
          have y1 := hMd.at HY.out.2 (by simp)
          have y0' := ((Mod.refl [] wd).alloc (.cells #[.int .u64 (bits .or .u64 7 J), .int .u64 mx] 45)).at y0 (by simp)
          have y1' := ((Mod.refl [] wd).alloc (.cells #[.int .u64 (bits .or .u64 7 J), .int .u64 mx] 45)).at y1 (by simp)
          clear hMd ck
          go_wp2_with fail
          exact ⟨⟨2, rfl, by decide, HMd.out.alloc _⟩, by decide⟩
        · have ck := hM.at (cell_in H3W.out (show (#[Value.pointer (some ⟨t0, 0, none⟩), .pointer (some ⟨t1, 0, none⟩), .pointer (some ⟨t2, 0, none⟩)] : Array Value)[2]? = some (.pointer (some ⟨t2, 0, none⟩)) from rfl)) (by simp)
          have HCD := Lib.hid (HD2.out _ hM)
          have y0 := hM.at (cell_in HQW.out (show (#[Value.int .u64 (bits .or .u64 7 J), .int .u64 mx] : Array Value)[0]? = some (.int .u64 (bits .or .u64 7 J)) from rfl)) (by simp)
          have y1 := hM.at (cell_in HQW.out (show (#[Value.int .u64 (bits .or .u64 7 J), .int .u64 mx] : Array Value)[1]? = some (.int .u64 mx) from rfl)) (by simp)
          have HMR := Lib.hid hM
          have HY := Lib.hid (And.intro y0 y1)
          clear hM y0 y1
          go_wp2_with fail
          refine HCD.out.mono ?_
          rintro _ wd ⟨rfl, hMd⟩
          have HMd := Lib.hid (HMR.out.trans hMd)
          have y0 := hMd.at HY.out.1 (by simp)
          have y1 := hMd.at HY.out.2 (by simp)
          have y0' := ((Mod.refl [] wd).alloc (.cells #[.int .u64 (bits .or .u64 7 J), .int .u64 mx] 45)).at y0 (by simp)
          have y1' := ((Mod.refl [] wd).alloc (.cells #[.int .u64 (bits .or .u64 7 J), .int .u64 mx] 45)).at y1 (by simp)
          clear hMd ck
          go_wp2_with fail
          exact ⟨⟨3, rfl, by decide, HMd.out.alloc _⟩, by decide⟩
        · have HMF := Lib.hid (HMW2.out.trans hM)
          clear hM
          go_wp2_with fail
          go_ret
          exact ⟨rfl, HMF.out⟩
    | cons x rest =>
      obtain ⟨m, hm⟩ : ∃ m, (x :: rest).length = m := ⟨_, rfl⟩
      have hm1 : rest.length + 1 = m := by rw [← hm]; rfl
      have hmcap : m ≤ cap := by rw [← hm]; exact hrow.le
      have hcapx := hrow.max
      rw [hm]
      have hcs := hrow.cells
      obtain ⟨kd, fr, to', seq, id, ms, bal, old, nid, nms, cut⟩ := x
      have d0 := hcs 0 (.int .i64 kd) rfl
      have d1 := hcs 1 (.int .i64 fr) rfl
      have d2 := hcs 2 (.int .i64 to') rfl
      have d3 := hcs 3 (.int .u64 seq) rfl
      have d4 := hcs 4 (.int .i64 0) rfl
      have d5 := hcs 5 (.slice none 0 0) rfl
      have d6 := hcs 6 (.int .u64 id) rfl
      have d7 := hcs 7 (.int .u64 ms) rfl
      have d8 := hcs 8 (.int .u64 bal) rfl
      have d9 := hcs 9 (.int .u64 old) rfl
      have d10 := hcs 10 (.int .u64 nid) rfl
      have d11 := hcs 11 (.int .u64 nms) rfl
      have d12 := hcs 12 (.int .u64 cut) rfl
      have d13 := hcs 13 (.slice none 0 0) rfl
      have d14 := hcs 14 (.slice none 0 0) rfl
      have d15 := hcs 15 (.float .f64 0) rfl
      have hn1 := stage_more n _ _ hn hL
      have hjs := HG.out.len
      have hm20 : m ≤ 20 := by have := stage_len HG.out n; rw [hL, hm] at this; exact this
      have hma := (Mod.refl [] wr).alloc (.cells #[.int .i64 kd, .int .i64 fr, .int .i64 to', .int .u64 seq, .int .i64 0, .slice none 0 0, .int .u64 id, .int .u64 ms, .int .u64 bal, .int .u64 old, .int .u64 nid, .int .u64 nms, .int .u64 cut, .slice none 0 0, .slice none 0 0, .float .f64 0] 42)
      have hmb := hma.alloc (.cells #[] 42)
      have hxr := row_mod ((Mod.refl [] (wr.alloc (.cells #[.int .i64 kd, .int .i64 fr, .int .i64 to', .int .u64 seq, .int .i64 0, .slice none 0 0, .int .u64 id, .int .u64 ms, .int .u64 bal, .int .u64 old, .int .u64 nid, .int .u64 nms, .int .u64 cut, .slice none 0 0, .slice none 0 0, .float .f64 0] 42))).alloc (.cells #[] 42)) (heap_new wr (.cells #[.int .i64 kd, .int .i64 fr, .int .i64 to', .int .u64 seq, .int .i64 0, .slice none 0 0, .int .u64 id, .int .u64 ms, .int .u64 bal, .int .u64 old, .int .u64 nid, .int .u64 nms, .int .u64 cut, .slice none 0 0, .slice none 0 0, .float .f64 0] 42)) (by simp)
      have hBr : B ≤ wr.heap.size := Nat.le_of_lt (Nat.lt_of_le_of_lt hrow.base hrow.lt)
      have hrn := row_none (wr.alloc (.cells #[.int .i64 kd, .int .i64 fr, .int .i64 to', .int .u64 seq, .int .i64 0, .slice none 0 0, .int .u64 id, .int .u64 ms, .int .u64 bal, .int .u64 old, .int .u64 nid, .int .u64 nms, .int .u64 cut, .slice none 0 0, .slice none 0 0, .float .f64 0] 42)) B (by simp; omega)
      obtain ⟨g', cap', w8, hrun, hrow8, hm8⟩ := row_append ((wr.alloc (.cells #[.int .i64 kd, .int .i64 fr, .int .i64 to', .int .u64 seq, .int .i64 0, .slice none 0 0, .int .u64 id, .int .u64 ms, .int .u64 bal, .int .u64 old, .int .u64 nid, .int .u64 nms, .int .u64 cut, .slice none 0 0, .slice none 0 0, .float .f64 0] 42)).alloc (.cells #[] 42)) B (wr.alloc (.cells #[.int .i64 kd, .int .i64 fr, .int .i64 to', .int .u64 seq, .int .i64 0, .slice none 0 0, .int .u64 id, .int .u64 ms, .int .u64 bal, .int .u64 old, .int .u64 nid, .int .u64 nms, .int .u64 cut, .slice none 0 0, .slice none 0 0, .float .f64 0] 42)).heap.size 0 (.slice (if cap = 1 then some ⟨g, 0, none⟩ else some ⟨g, 16, none⟩) (m - 1) (cap - 1)) [] rest hrn ((hrow.mod hmb (by simp)).tail1 hm) (by simp; omega) (by simp; omega)
      have es : (wr.alloc (.cells #[.int .i64 kd, .int .i64 fr, .int .i64 to', .int .u64 seq, .int .i64 0, .slice none 0 0, .int .u64 id, .int .u64 ms, .int .u64 bal, .int .u64 old, .int .u64 nid, .int .u64 nms, .int .u64 cut, .slice none 0 0, .slice none 0 0, .float .f64 0] 42)).heap.size = wr.heap.size + 1 := by simp
      rw [es] at hrun
      obtain ⟨ad, had⟩ : ∃ ad : Option Addr, (if cap = 1 then some (⟨g, 0, none⟩ : Addr) else some ⟨g, 16, none⟩) = ad := ⟨_, rfl⟩
      rw [had] at hrun
      have HRUN := Lib.hid (show (Builtin.append_ #[30, 30] 30 #[.slice (some ⟨wr.heap.size + 1, 0, none⟩) 0 0, .slice ad (m - 1) (cap - 1)]).run Tryz.prog ((wr.alloc (.cells #[.int .i64 kd, .int .i64 fr, .int .i64 to', .int .u64 seq, .int .i64 0, .slice none 0 0, .int .u64 id, .int .u64 ms, .int .u64 bal, .int .u64 old, .int .u64 nid, .int .u64 nms, .int .u64 cut, .slice none 0 0, .slice none 0 0, .float .f64 0] 42)).alloc (.cells #[] 42)) = .ok (.slice (some ⟨g', 0, none⟩) rest.length cap') w8 from hrun)
      clear es
      have hB1 : B < (wr.alloc (.cells #[.int .i64 kd, .int .i64 fr, .int .i64 to', .int .u64 seq, .int .i64 0, .slice none 0 0, .int .u64 id, .int .u64 ms, .int .u64 bal, .int .u64 old, .int .u64 nid, .int .u64 nms, .int .u64 cut, .slice none 0 0, .slice none 0 0, .float .f64 0] 42)).heap.size := by simp; omega
      have hM8 : Mod [] wr w8 := hmb.step hm8 (fun x hx => .inr (by simp at hx; omega))
      have hx8 := row_mod hm8 hxr (by simp)
      have HX8 := Lib.hid hx8
      have HR8 := Lib.hid (show Row w8 B g' cap' rest from hrow8)
      have HE8 := Lib.hid (henv.mod0 hM8)
      have H38 := Lib.hid (row_mod hM8 hr3 (by simp))
      have HP8 := Lib.hid (row_mod hM8 hrp (by simp))
      have HM8 := Lib.hid (hmw.trans hM8)
      have HL8 := Lib.hid (And.intro hL (And.intro hn1 (And.intro hjs (And.intro hm20 hm1))))
      have hi0 : (0 : Int) < m := by omega
      have hi1 : (n : Int) < 100 := by omega
      have hi2 : (1 : Int) ≤ m := by omega
      clear hrow hcs hL hn hma hmb hxr hrn hrun hrow8 hm8 hx8 hM8 henv hr3 hrp hmw hB1 hm
      have hout : ∀ x, B ≤ x → x ∉ [ts 0, ts 1, ts 2] := fun x hx => by
        rw [HTSE.out.1, HTSE.out.2.1, HTSE.out.2.2]
        have h1 := HBW.out.1
        have h2 := HORD.out
        simp
        omega
      have hn3 : g3 ∉ [ts 0, ts 1, ts 2] := by
        rw [HTSE.out.1, HTSE.out.2.1, HTSE.out.2.2]
        have h2 := HORD.out
        simp
        omega
      have hnp : p ∉ [ts 0, ts 1, ts 2] := by
        rw [HTSE.out.1, HTSE.out.2.1, HTSE.out.2.2]
        have h2 := HORD.out
        simp
        omega
      by_cases hlt : to' < 3
      · have hlt' : (to' : Int) < 3 := by omega
        have hnx : wr.heap.size ∉ [ts 0, ts 1, ts 2] := hout _ hBr
        have c3 : w8.cell? ⟨g3, to', none⟩ = some (.pointer (some ⟨ts to', 0, none⟩)) := by
          have h3 : to' = 0 ∨ to' = 1 ∨ to' = 2 := by omega
          rcases h3 with rfl | rfl | rfl
          · rw [HTSE.out.1]; exact cell_in H38.out rfl
          · rw [HTSE.out.2.1]; exact cell_in H38.out rfl
          · rw [HTSE.out.2.2]; exact cell_in H38.out rfl
        have cp : w8.cell? ⟨p, to', none⟩ = some (.int .u8 (G.r to')) := by
          have h3 : to' = 0 ∨ to' = 1 ∨ to' = 2 := by omega
          rcases h3 with rfl | rfl | rfl
          · rw [HGG.out.1.1]; exact cell_in HP8.out rfl
          · rw [HGG.out.1.2.1]; exact cell_in HP8.out rfl
          · rw [HGG.out.1.2.2]; exact cell_in HP8.out rfl
        have hrb : 0 ≤ G.r to' ∧ G.r to' ≤ 255 := by
          have h3 : to' = 0 ∨ to' = 1 ∨ to' = 2 := by omega
          have h4 := HAB.out
          rcases h3 with rfl | rfl | rfl
          · rw [HGG.out.1.1]; omega
          · rw [HGG.out.1.2.1]; omega
          · rw [HGG.out.1.2.2]; omega
        have hwr : IntKind.u64.wrap (G.r to') = G.r to' := IntWalk.u64_in _ ⟨hrb.1, by omega⟩
        have HST := Lib.hid (show Calls Tryz.prog 9 #[.pointer (some ⟨ts to', 0, none⟩), .agg #[.int .i64 kd, .int .i64 fr, .int .i64 to', .int .u64 seq, .int .i64 0, .slice none 0 0, .int .u64 id, .int .u64 ms, .int .u64 bal, .int .u64 old, .int .u64 nid, .int .u64 nms, .int .u64 cut, .slice none 0 0, .slice none 0 0, .float .f64 0], .int .u64 (G.r to')] w8.drew (HearPost w8.drew ts (G.stg (n + 1)) rest) from stage_hear HG.out HNE.out n ⟨kd, fr, to', seq, id, ms, bal, old, nid, nms, cut⟩ rest (HE8.out.mod0 (Mod.refl [] _).drew) HL8.out.1 hlt)
        clear hrb
        go_wp2_with (at_builtin; with_reducible refine wpl_append_run _ rfl (.tmp 89) (.tmp 91) 30 rfl (.slice (some ⟨wr.heap.size + 1, 0, none⟩) 0 0) (.slice ad (m - 1) (cap - 1)) rfl rfl HRUN.out ?_; obtain ⟨q0, q1, q2, q3, q4, q5, q6, q7, q8, q9, q10, q11, q12, q13, q14, q15⟩ := let_cells HX8.out)
        clear d0 d1 d2 d3 d4 d5 d6 d7 d8 d9 d10 d11 d12 d13 d14 d15
        go_region_held3 (fun w' => w'.cell? ⟨wr.heap.size, 0, none⟩ = some (.int .i64 kd) ∧ w'.cell? ⟨wr.heap.size, 1, none⟩ = some (.int .i64 fr) ∧ w'.cell? ⟨wr.heap.size, 2, none⟩ = some (.int .i64 to') ∧ w'.cell? ⟨wr.heap.size, 3, none⟩ = some (.int .u64 seq) ∧ w'.cell? ⟨wr.heap.size, 4, none⟩ = some (.int .i64 0) ∧ w'.cell? ⟨wr.heap.size, 5, none⟩ = some (.slice none 0 0) ∧ w'.cell? ⟨wr.heap.size, 6, none⟩ = some (.int .u64 id) ∧ w'.cell? ⟨wr.heap.size, 7, none⟩ = some (.int .u64 ms) ∧ w'.cell? ⟨wr.heap.size, 8, none⟩ = some (.int .u64 bal) ∧ w'.cell? ⟨wr.heap.size, 9, none⟩ = some (.int .u64 old) ∧ w'.cell? ⟨wr.heap.size, 10, none⟩ = some (.int .u64 nid) ∧ w'.cell? ⟨wr.heap.size, 11, none⟩ = some (.int .u64 nms) ∧ w'.cell? ⟨wr.heap.size, 12, none⟩ = some (.int .u64 cut) ∧ w'.cell? ⟨wr.heap.size, 13, none⟩ = some (.slice none 0 0) ∧ w'.cell? ⟨wr.heap.size, 14, none⟩ = some (.slice none 0 0) ∧ w'.cell? ⟨wr.heap.size, 15, none⟩ = some (.float .f64 0) ∧ w'.cell? ⟨g3, to', none⟩ = some (.pointer (some ⟨ts to', 0, none⟩)) ∧ w'.cell? ⟨p, to', none⟩ = some (.int .u8 (G.r to'))) (first | exact ⟨q0, q1, q2, q3, q4, q5, q6, q7, q8, q9, q10, q11, q12, q13, q14, q15, c3, cp⟩ | exact ⟨HM9.out.at q0 hnx, HM9.out.at q1 hnx, HM9.out.at q2 hnx, HM9.out.at q3 hnx, HM9.out.at q4 hnx, HM9.out.at q5 hnx, HM9.out.at q6 hnx, HM9.out.at q7 hnx, HM9.out.at q8 hnx, HM9.out.at q9 hnx, HM9.out.at q10 hnx, HM9.out.at q11 hnx, HM9.out.at q12 hnx, HM9.out.at q13 hnx, HM9.out.at q14 hnx, HM9.out.at q15 hnx, HM9.out.at c3 hn3, HM9.out.at cp hnp⟩) ((go_at_call 9; (with_reducible refine HST.out.mono ?_); rintro _ w9 ⟨v9, L9, rfl, hL9, hE9, hn9, hM9⟩; have HM9 := Lib.hid ((Mod.refl [ts 0, ts 1, ts 2] w8).drew.trans hM9); have HO9 := Lib.hid (And.intro hL9 (And.intro hE9 hn9)); clear hL9 hE9 hn9 hM9))
        obtain ⟨hL9, hE9, hn9⟩ := HO9.out
        have htsB : ∀ x ∈ [ts 0, ts 1, ts 2], x < B := fun x hx => by
          rw [HTSE.out.1, HTSE.out.2.1, HTSE.out.2.2] at hx
          have h1 := HBW.out.1
          have h2 := HORD.out
          simp at hx
          omega
        have htsw : ∀ x ∈ [ts 0, ts 1, ts 2], w.heap.size ≤ x := fun x hx => by
          rw [HTSE.out.1, HTSE.out.2.1, HTSE.out.2.2] at hx
          have h2 := HORD.out
          simp at hx
          omega
        have hwB : w.heap.size ≤ B := by have h1 := HBW.out.1; have h2 := HORD.out; omega
        have hlen := stage_len HG.out (n + 1)
        rw [hn9, List.length_append] at hlen
        have hrow9 := HR8.out.mod HM9.out htsB
        obtain ⟨g2, cap2, wA, hrunA, hrowA, hmA⟩ := row_append w9 B g' cap' v9 rest L9 hrow9 hL9.read (by omega) (Nat.le_of_lt (Nat.lt_of_le_of_lt hrow9.base hrow9.lt))
        have hgB := hrow9.base
        have hnt : ∀ k, k < 3 → ts k ∉ [g'] := fun k hk hx => by
          have h3 : k = 0 ∨ k = 1 ∨ k = 2 := by omega
          have h4 : ts k < B := htsB (ts k) (by rcases h3 with rfl | rfl | rfl <;> simp)
          simp at hx
          omega
        have hEA := hE9.mod hmA (hnt 0 (by decide)) (hnt 1 (by decide)) (hnt 2 (by decide)) (by have h1 := HBW.out.2.2.2; simp; omega)
        have hA3 := row_mod hmA (row_mod HM9.out H38.out hn3) (by have h1 := HBW.out.2.1; simp; omega)
        have hAp := row_mod hmA (row_mod HM9.out HP8.out hnp) (by have h1 := HBW.out.2.2.1; simp; omega)
        have hMA := (HM8.out.step HM9.out (fun x hx => .inr (htsw x hx))).step hmA (fun x hx => .inr (by simp at hx; omega))
        have HRUNA := Lib.hid hrunA
        have HF := Lib.hid (And.intro hn9 (And.intro hrowA (And.intro hEA (And.intro hA3 (And.intro hAp hMA)))))
        clear hL9 hE9 hn9 htsB htsw hwB hlen hrow9 hrunA hrowA hmA hgB hnt hEA hA3 hAp hMA q0 q1 q2 q3 q4 q5 q6 q7 q8 q9 q10 q11 q12 q13 q14 q15 c3 cp hwr
        go_wp2_with (at_builtin; with_reducible refine wpl_append_run _ rfl (.tmp 111) (.tmp 112) 30 rfl (.slice (some ⟨g', 0, none⟩) rest.length cap') v9 rfl rfl HRUNA.out ?_)
        refine ⟨⟨n + 1, rfl, ⟨HL8.out.2.1, ⟨g2, cap2, by rw [HF.out.1]; simp only [List.length_append], by rw [HF.out.1]; exact HF.out.2.1⟩, HF.out.2.2.1, HF.out.2.2.2.1, HF.out.2.2.2.2.1, HF.out.2.2.2.2.2⟩⟩, ?_⟩
        show 100 - ((n : Int) + 1).toNat < 100 - ((n : Int)).toNat
        omega
      · have hlt' : ¬ (to' : Int) < 3 := by omega
        go_wp2_with (at_builtin; with_reducible refine wpl_append_run _ rfl (.tmp 89) (.tmp 91) 30 rfl (.slice (some ⟨wr.heap.size + 1, 0, none⟩) 0 0) (.slice ad (m - 1) (cap - 1)) rfl rfl HRUN.out ?_; obtain ⟨q0, q1, q2, q3, q4, q5, q6, q7, q8, q9, q10, q11, q12, q13, q14, q15⟩ := let_cells HX8.out)
        have hsk := stage_skip HG.out n _ rest HL8.out.1 hlt
        refine ⟨⟨n + 1, rfl, ⟨HL8.out.2.1, ⟨g', cap', by rw [hsk], by rw [hsk]; exact HR8.out⟩, by rw [hsk]; exact ⟨HE8.out.a, HE8.out.b, HE8.out.c⟩, H38.out, HP8.out, HM8.out⟩⟩, ?_⟩
        show 100 - ((n : Int) + 1).toNat < 100 - ((n : Int)).toNat
        omega

end Go.Proofs.YtaaaiggbnkeblaaGreatDoor
