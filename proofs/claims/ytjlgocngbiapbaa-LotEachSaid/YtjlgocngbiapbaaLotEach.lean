/-
  The walk of the law LotEach.
-/
import Derived.Test.YtjlgocngbiapbaaLotSame
import Derived.Test.YtjlgocngbiapbaaLotPerm
import Derived.Maps.OwnOps
import Derived.Maps.OwnSet
import Derived.DeepKeys5
namespace Go.Proofs.Ytjlgocngbiapbaa
open Go.RowKit
open Go.Maps (Keyed)

theorem key3 : Keyed Try.prog 30 := Keyed.of_law (deep_law_gate Try.laidOut (by decide +kernel) (by decide +kernel) (by kernel_rfl) (by kernel_rfl))

/-- Three numbers, as a key. -/
def key3v (x y z : Int) : Value := .agg #[.int .i64 x, .int .i64 y, .int .i64 z]
noncomputable def key3l (x y z : Int) : Lit := (keyOf Try.prog 30 (key3v x y z)).getD (.bool false)

theorem key3_some (x y z : Int) (hx : (Lit.int .i64 x).wf = true) (hy : (Lit.int .i64 y).wf = true) (hz : (Lit.int .i64 z).wf = true) : keyOf Try.prog 30 (key3v x y z) = some (key3l x y z) := by
  have h : ∃ l, keyOf Try.prog 30 (key3v x y z) = some l := by
    obtain ⟨f, hf⟩ : ∃ f, Try.prog.types.size + 1 = f + 1 + 1 := ⟨Try.prog.types.size - 1, by have : 1 ≤ Try.prog.types.size := of_decide_eq_true (by kernel_rfl); omega⟩
    have hkt : Try.prog.keyType 30 = true := by kernel_rfl
    have hc : Try.prog.cellsOf 30 = 3 := by kernel_rfl
    have hc1 : Try.prog.cellsOf 3 = 1 := by kernel_rfl
    have e1 : ∀ v : Int, (Lit.int .i64 v).wf = true → Try.prog.keyLits (f + 1) 3 [.int .i64 v] = some [.int .i64 v] := fun v hv => by simp [Program.keyLits, Try.underlying3, hv]
    have e3 : Try.prog.keyLits (f + 1 + 1) 30 [.int .i64 x, .int .i64 y, .int .i64 z] = some [.int .i64 x, .int .i64 y, .int .i64 z] := by
      simp only [Program.keyLits, Try.underlying30, hc, hc1]
      rw [if_pos (show [Value.int .i64 x, .int .i64 y, .int .i64 z].length = 3 from rfl)]
      simp only [show List.range 3 = [0, 1, 2] from rfl, List.mapM_cons, List.mapM_nil]
      have g0 : (List.drop (0 * 1) [Value.int .i64 x, .int .i64 y, .int .i64 z]).take 1 = [.int .i64 x] := rfl
      have g1 : (List.drop (1 * 1) [Value.int .i64 x, .int .i64 y, .int .i64 z]).take 1 = [.int .i64 y] := rfl
      have g2 : (List.drop (2 * 1) [Value.int .i64 x, .int .i64 y, .int .i64 z]).take 1 = [.int .i64 z] := rfl
      have e1' := fun v hv => e1 v hv
      simp only [Program.keyLits, Try.underlying3] at e1'
      rw [g0, g1, g2]
      simp [Try.underlying3, hx, hy, hz]
    have e4 : Try.prog.keyLits (Try.prog.types.size + 1) 30 (key3v x y z).cells.toList = some [.int .i64 x, .int .i64 y, .int .i64 z] := by
      rw [hf]
      exact e3
    refine ⟨.string (keyBytes [.int .i64 x, .int .i64 y, .int .i64 z]), ?_⟩
    unfold keyOf
    simp only [Try.underlying30]
    rw [e4, hkt, if_pos]
    · rfl
    · simp [Value.formed, key3v, Try.underlying30, hc]
  obtain ⟨l, hl⟩ := h
  unfold key3l
  rw [hl]
  rfl

theorem key3_inj {x y z x' y' z' : Int} (h1 : keyOf Try.prog 30 (key3v x y z) = some (key3l x y z)) (h2 : keyOf Try.prog 30 (key3v x' y' z') = some (key3l x' y' z')) (h : key3l x y z = key3l x' y' z') : x = x' ∧ y = y' ∧ z = z' := by
  rw [← h] at h2
  have hv := key3.inj h1 h2
  simp only [key3v, Value.agg.injEq] at hv
  simpa using hv

structure IsKeyL (l : Lit) : Prop where
  out : WideAt.IsKeyLit l
theorem key3_is {v : Value} {l : Lit} (h : keyOf Try.prog 30 v = some l) : IsKeyL l := ⟨key3.key h⟩

/-- The call's own set of keys. -/
def Seen (w : World) (b : Nat) (ks : List Lit) : Prop := w.ownsMap Try.prog 30 (plainElem (H := Unit) Try.prog 4) b ks.length (Maps.setOf (.lit (.bool true)) ks)

theorem size_nodup (u : DataW Unit) (ks : List Lit) (hk0 : ∀ x ∈ ks, IsKeyL x) (hn : ks.Nodup) : Maps.size (Maps.setOf u ks) = ks.length := by
  have hk : ∀ x ∈ ks, WideAt.IsKeyLit x := fun x hx => (hk0 x hx).out
  have h : ∀ (n : Nat), n ≤ ks.length → Maps.size (Maps.setOf u (ks.take n)) = n := by
    intro n
    induction n with
    | zero => intro _; rfl
    | succ n ih =>
      intro hle
      have hlt : n < ks.length := by omega
      have hks : ∀ x ∈ ks.take n, WideAt.IsKeyLit x := fun x hx => hk x (List.mem_of_mem_take hx)
      rw [List.take_add_one, List.getElem?_eq_getElem hlt, Option.toList_some, Maps.setOf_snoc, Maps.size_put (Maps.tidy_setOf u _ hks), Maps.has_setOf u _ _ hks, ih (by omega)]
      rw [if_neg]
      rw [List.any_eq_true]
      rintro ⟨y, hy, he⟩
      have hyx := WideAt.sameKey_eq he
      subst hyx
      obtain ⟨j, hj, hjy⟩ := List.mem_iff_getElem.1 hy
      simp at hj
      rw [List.getElem_take] at hjy
      exact List.pairwise_iff_getElem.1 hn j n (by omega) hlt (by omega) hjy
  have := h ks.length (Nat.le_refl _)
  rwa [List.take_length] at this

def perm3 (a b c : Int) (t : Nat) : List Int := shufOut [a, b, c] [((t / 2 : Nat) : Int), ((t % 2 : Nat) : Int)]
noncomputable def eachKey (a b c : Int) (t : Nat) : Lit := key3l ((perm3 a b c t).getD 0 0) ((perm3 a b c t).getD 1 0) ((perm3 a b c t).getD 2 0)
noncomputable def eachKeys (a b c : Int) (n : Nat) : List Lit := (List.range n).map (eachKey a b c)

theorem perm3_len (a b c : Int) (t : Nat) : (perm3 a b c t).length = 3 := by unfold perm3; rw [shufOut_length]; rfl

theorem eachKeys_succ (a b c : Int) (n : Nat) : eachKeys a b c (n + 1) = eachKeys a b c n ++ [eachKey a b c n] := by simp [eachKeys, List.range_succ]

theorem each_all (a b c : Int) (ha : (Lit.int .i64 a).wf = true) (hb : (Lit.int .i64 b).wf = true) (hc : (Lit.int .i64 c).wf = true) (h1 : a ≠ b) (h2 : b ≠ c) (h3 : a ≠ c) :
    Maps.size (Maps.setOf (.lit (.bool true) : DataW Unit) (eachKeys a b c 6)) = 6 := by
  have k0 := key3_some b c a hb hc ha
  have k1 := key3_some c b a hc hb ha
  have k2 := key3_some c a b hc ha hb
  have k3 := key3_some a c b ha hc hb
  have k4 := key3_some b a c hb ha hc
  have k5 := key3_some a b c ha hb hc
  have p0 : perm3 a b c 0 = [b, c, a] := rfl
  have p1 : perm3 a b c 1 = [c, b, a] := rfl
  have p2 : perm3 a b c 2 = [c, a, b] := rfl
  have p3 : perm3 a b c 3 = [a, c, b] := rfl
  have p4 : perm3 a b c 4 = [b, a, c] := rfl
  have p5 : perm3 a b c 5 = [a, b, c] := rfl
  have q : ∀ t x y z, perm3 a b c t = [x, y, z] → eachKey a b c t = key3l x y z := by
    intro t x y z h
    unfold eachKey
    rw [h]
    simp only [List.getD_cons_zero, List.getD_cons_succ]
  have hk : eachKeys a b c 6 = [key3l b c a, key3l c b a, key3l c a b, key3l a c b, key3l b a c, key3l a b c] := by
    unfold eachKeys
    rw [show List.range 6 = [0, 1, 2, 3, 4, 5] by decide, List.map_cons, List.map_cons, List.map_cons, List.map_cons, List.map_cons, List.map_cons, List.map_nil, q _ _ _ _ p0, q _ _ _ _ p1, q _ _ _ _ p2, q _ _ _ _ p3, q _ _ _ _ p4, q _ _ _ _ p5]
  rw [hk]
  have key : ∀ {x y z x' y' z' : Int}, keyOf Try.prog 30 (key3v x y z) = some (key3l x y z) → keyOf Try.prog 30 (key3v x' y' z') = some (key3l x' y' z') → (x ≠ x' ∨ y ≠ y') → key3l x y z ≠ key3l x' y' z' := by
    intro x y z x' y' z' g1 g2 g h
    obtain ⟨e1, e2, _⟩ := key3_inj g1 g2 h
    rcases g with g | g
    · exact g e1
    · exact g e2
  have t0 := key3_is k0
  have t1 := key3_is k1
  have t2 := key3_is k2
  have t3 := key3_is k3
  have t4 := key3_is k4
  have t5 := key3_is k5
  refine size_nodup _ _ ?_ ?_
  · intro x hx
    simp only [List.mem_cons, List.not_mem_nil, or_false] at hx
    rcases hx with h | h | h | h | h | h <;> rw [h]
    · exact t0
    · exact t1
    · exact t2
    · exact t3
    · exact t4
    · exact t5
  · simp only [List.nodup_cons, List.mem_cons, List.not_mem_nil, or_false, not_or, not_false_iff, List.nodup_nil, and_true]
    refine ⟨⟨key k0 k1 ?_, key k0 k2 ?_, key k0 k3 ?_, key k0 k4 ?_, key k0 k5 ?_⟩, ⟨key k1 k2 ?_, key k1 k3 ?_, key k1 k4 ?_, key k1 k5 ?_⟩, ⟨key k2 k3 ?_, key k2 k4 ?_, key k2 k5 ?_⟩, ⟨key k3 k4 ?_, key k3 k5 ?_⟩, key k4 k5 ?_⟩
    all_goals first | (left; omega) | (right; omega)

def EachA (w : World) (a b c : Int) (B : Nat) (v : Value) (wr : World) : Prop :=
  ∃ i : Nat, v = .int .i64 i ∧ i ≤ 3 ∧ Seen wr B (eachKeys a b c (2 * i)) ∧ Mod [] w wr
def EachB (w : World) (a b c : Int) (B i : Nat) (v : Value) (wr : World) : Prop :=
  ∃ k : Nat, v = .int .i64 k ∧ k ≤ 2 ∧ Seen wr B (eachKeys a b c (2 * i + k)) ∧ Mod [] w wr

theorem Seen.mod {w w' : World} {b : Nat} {ks : List Lit} {S : List Nat} (h : Seen w b ks) (hm : Mod S w w') (hs : b ∉ S) : Seen w' b ks := by
  have hlt := h.lt
  obtain ⟨es, clock, h1, h2⟩ := h
  exact ⟨es, clock, (hm.block b hlt hs).trans h1, h2⟩

theorem Seen.add {w : World} {b : Nat} {ks : List Lit} {x y z : Int} (h : Seen w b ks) (hl : ks.length < maxLen) (hk : keyOf Try.prog 30 (key3v x y z) = some (key3l x y z)) :
    ∃ w', (Instr.mapUpdate 23 (.map (some b)) (.agg #[.int .i64 x, .int .i64 y, .int .i64 z]) (.bool true)).run Try.prog w = .ok () w' ∧ Seen w' b (ks ++ [key3l x y z]) ∧ w.grownBy w' (some b) := by
  obtain ⟨w', h1, h2, h3⟩ := h.update key3 Try.underlying23 hl hk (plainElem_bool Try.underlying4 true)
  refine ⟨w', h1, ?_, h3⟩
  unfold Seen
  rw [Maps.setOf_snoc, List.length_append]
  exact h2

theorem wpList_seen_len {w : World} {ops : Array Oper} {rest : List Oper} {o : Oper} {a : Act} {Q : Exit → Act → World → Prop} (hg : o.guard = none) (m : Operand) (hop : o.op = Op.call { callee := Callee.builtin Builtin.len, args := #[m], argTypes := #[23] })
    (b n : Nat) (ks : List Lit) (hm : a.eval m = .map (some b)) (hs : Seen w b ks) (hn : Maps.size (Maps.setOf (.lit (.bool true) : DataW Unit) ks) = n)
    (hN : wpList Try.prog ops Q rest (a.put o.dst (.int .i64 (n : Int))) w) : wpList Try.prog ops Q (o :: rest) a w := by
  refine wpList_len_own w hg m 23 hop 30 4 Try.underlying23 (plainElem Try.prog 4) b ks.length _ hm hs ?_
  rw [hn]
  exact hN

theorem wf_of_bounds {x : Int} (h0 : -9223372036854775808 ≤ x) (h1 : x ≤ 9223372036854775807) : (Lit.int .i64 x).wf = true := WalkArith.wf_i64 ⟨h0, h1⟩

set_option maxHeartbeats 4000000 in
theorem each_walk (w : World) (a b c : Int) (wa : (Lit.int .i64 a).wf = true) (wb : (Lit.int .i64 b).wf = true) (wc : (Lit.int .i64 c).wf = true) (h1 : a ≠ b) (h2 : b ≠ c) (h3 : a ≠ c) :
    Calls Try.prog 3 #[.int .i64 a, .int .i64 b, .int .i64 c] w (TruePost w) := by
  have hab : (a == b) = false := by simpa using h1
  have hbc : (b == c) = false := by simpa using h2
  have hac : (a == c) = false := by simpa using h3
  have HALL := Lib.hid (each_all a b c wa wb wc h1 h2 h3)
  have WA := Lib.hid wa
  have WB := Lib.hid wb
  have WC := Lib.hid wc
  clear wa wb wc h1 h2 h3
  have hmm := @run_makeMap Try.prog
  go_enter Try.func3, Try.ntmps3
  go_wp2_with fail
  refine (shown03 _).mono ?_
  rintro e w1 ⟨rfl, hM⟩
  have HM1 := Lib.hid hM
  have HS1 := Lib.hid hM.size
  clear hM
  go_wp2_with fail
  clear hmm
  go_loopw [8] (fun v wr => EachA w a b c w1.heap.size v wr) (fun v _ => 3 - (intOf v).toNat)
  case atStart => exact ⟨0, rfl, by omega, World.ownsMap_made _ _ _ _, HM1.out.alloc _⟩
  case round =>
    obtain ⟨i, rfl, hi, hseen, hM⟩ := hrel
    have HSEEN := Lib.hid hseen
    have HM := Lib.hid hM
    clear hseen hM
    by_cases hlt : (i : Int) < 3
    · go_wp2_with fail
      go_loopw [9] (fun v wr => EachB w a b c w1.heap.size i v wr) (fun v _ => 2 - (intOf v).toNat)
      case atStart => exact ⟨0, rfl, by omega, HSEEN.out, HM.out⟩
      case round =>
        clear HSEEN HM
        obtain ⟨k, rfl, hk, hseen, hM⟩ := hrel
        have HSEEN := Lib.hid hseen
        have HM := Lib.hid hM
        clear hseen hM
        by_cases hlt2 : (k : Int) < 2
        · go_wp2_with fail
          refine (new_any (some ⟨wr.heap.size, 0, none⟩) 2 [(i : Int), (k : Int)] _ (RdInts.of_row (heap_new _ _)) (by simp) (by simp; omega)).mono ?_
          rintro e w2 ⟨d, g, rfl, hd, hg, hL, hM⟩
          have HL2 := Lib.hid hL
          have HM2 := Lib.hid (((Mod.refl [] wr).alloc _).trans hM)
          have HD := Lib.hid (show wr.heap.size ≤ d by simp at hd; omega)
          clear hL hM hd hg
          go_wp2_with fail
          refine (shuffle_any d g (some ⟨w2.heap.size, 0, none⟩) 3 [a, b, c] [(i : Int), (k : Int)] _ (RdInts.of_row (heap_new _ _)) (by simp) (HL2.out.mod ((Mod.refl [] _).alloc _) (by simp) (by simp))).mono ?_
          rintro e w3 ⟨o, rfl, ho, hO, _, hM⟩
          have hO' : OwnInts w3 o (perm3 a b c (2 * i + k)) := by
            unfold perm3
            rw [show (2 * i + k) / 2 = i by omega, show (2 * i + k) % 2 = k by omega]
            exact hO
          have HM3 := Lib.hid ((HM2.out.alloc _).step hM (by simpa using HD.out))
          have HSEEN3 := Lib.hid (HSEEN.out.mod HM3.out (by simp))
          obtain ⟨x, hx⟩ : ∃ x, (perm3 a b c (2 * i + k)).getD 0 0 = x := ⟨_, rfl⟩
          obtain ⟨y, hy⟩ : ∃ y, (perm3 a b c (2 * i + k)).getD 1 0 = y := ⟨_, rfl⟩
          obtain ⟨z, hz⟩ : ∃ z, (perm3 a b c (2 * i + k)).getD 2 0 = z := ⟨_, rfl⟩
          have c0 := hO'.cell (j := 0) (by rw [perm3_len]; omega)
          have c1 := hO'.cell (j := 1) (by rw [perm3_len]; omega)
          have c2 := hO'.cell (j := 2) (by rw [perm3_len]; omega)
          rw [hx] at c0
          rw [hy] at c1
          rw [hz] at c2
          have hkey : keyOf Try.prog 30 (key3v x y z) = some (key3l x y z) := by
            have hm : ∀ v ∈ perm3 a b c (2 * i + k), (Lit.int .i64 v).wf = true := by
              intro v hv
              have h1 := shufOut_mem hv
              simp at h1
              rcases h1 with rfl | rfl | rfl
              · exact WA.out
              · exact WB.out
              · exact WC.out
            have hmem : ∀ j, j < 3 → (perm3 a b c (2 * i + k)).getD j 0 ∈ perm3 a b c (2 * i + k) := by
              intro j hj
              have : j < (perm3 a b c (2 * i + k)).length := by rw [perm3_len]; exact hj
              simp [List.getD, this]
            exact key3_some x y z (hm _ (hx ▸ hmem 0 (by omega))) (hm _ (hy ▸ hmem 1 (by omega))) (hm _ (hz ▸ hmem 2 (by omega)))
          have HKEY := Lib.hid (show eachKey a b c (2 * i + k) = key3l x y z by unfold eachKey; rw [hx, hy, hz])
          obtain ⟨w4, hrun, hs4, hg4⟩ := Seen.add (w := w3.drew) HSEEN3.out (by unfold maxLen; simp [eachKeys]; omega) hkey
          have HS4 := Lib.hid hs4
          have HG4 := Lib.hid hg4
          clear hO hO' hx hy hz hkey hs4 hg4 hM ho
          go_wp2_with fail
          go_region
          go_wp2
          go_roundw
          case rel => exact ⟨k + 1, by go_num, by omega, by rw [← Nat.add_assoc, eachKeys_succ, HKEY.out]; exact HS4.out, (HM.out.trans HM3.out).drew.grown HG4.out (.inr HS1.out)⟩
          case measure => simp [intOf]; omega
        · have hk2 : k = 2 := by omega
          have HK2 := Lib.hid hk2
          clear hk2
          go_wp2
          go_roundw
          case rel => exact ⟨i + 1, by go_num, by omega, by have := HSEEN.out; rw [HK2.out] at this; exact this, HM.out⟩
          case measure => simp [intOf]; omega
    · have hi3 : i = 3 := by omega
      have HI3 := Lib.hid hi3
      clear hi3
      go_wp2_with (at_len; with_reducible refine wpList_seen_len rfl (.tmp 63) rfl w1.heap.size 6 (eachKeys a b c 6) rfl (by have := HSEEN.out; rw [HI3.out] at this; exact this) HALL.out ?_)
      go_ret
      exact ⟨rfl, HM.out⟩

set_option maxHeartbeats 4000000 in
theorem walk_LotEach (w : World) (a : Int) (a0 : -9223372036854775808 ≤ a) (a1 : a ≤ 9223372036854775807) (b : Int) (b0 : -9223372036854775808 ≤ b) (b1 : b ≤ 9223372036854775807) (c : Int) (c0 : -9223372036854775808 ≤ c) (c1 : c ≤ 9223372036854775807) :
    Calls Try.prog 3 #[.int .i64 a, .int .i64 b, .int .i64 c] w (TruePost w) := by
  have wa := wf_of_bounds a0 a1
  have wb := wf_of_bounds b0 b1
  have wc := wf_of_bounds c0 c1
  clear a0 a1 b0 b1 c0 c1
  by_cases h1 : a = b
  · have h1' : (a == b) = true := by simpa using h1
    clear h1 wa wb wc
    go_enter Try.func3, Try.ntmps3
    go_wp2_with (go_at_call 20; refine (shown03 _).mono ?_; rintro e w1 ⟨rfl, hM⟩)
    go_ret
    exact ⟨rfl, hM⟩
  by_cases h2 : b = c
  · have h1' : (a == b) = false := by simpa using h1
    have h2' : (b == c) = true := by simpa using h2
    clear h1 h2 wa wb wc
    go_enter Try.func3, Try.ntmps3
    go_wp2_with (go_at_call 20; refine (shown03 _).mono ?_; rintro e w1 ⟨rfl, hM⟩)
    go_ret
    exact ⟨rfl, hM⟩
  by_cases h3 : a = c
  · have h1' : (a == b) = false := by simpa using h1
    have h2' : (b == c) = false := by simpa using h2
    have h3' : (a == c) = true := by simpa using h3
    clear h1 h2 h3 wa wb wc
    go_enter Try.func3, Try.ntmps3
    go_wp2_with (go_at_call 20; refine (shown03 _).mono ?_; rintro e w1 ⟨rfl, hM⟩)
    go_ret
    exact ⟨rfl, hM⟩
  exact each_walk w a b c wa wb wc h1 h2 h3

end Go.Proofs.Ytjlgocngbiapbaa
