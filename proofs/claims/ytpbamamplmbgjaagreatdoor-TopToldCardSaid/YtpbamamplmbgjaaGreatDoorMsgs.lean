/-
  Rows of messages in memory: read ones, the call's own ones; append of one message.
-/
import Derived.Test.YtpbamamplmbgjaaGreatDoorDesk
import Derived.Maps.AppendAt
namespace Go.Proofs.YtpbamamplmbgjaaGreatDoor
set_option linter.unusedSimpArgs false
set_option linter.unusedVariables false
open Go.RowKit

def flat (ms : List M) : List Value := ms.flatMap mcells
theorem flat_nil : flat [] = [] := rfl
theorem flat_append (a b : List M) : flat (a ++ b) = flat a ++ flat b := by simp [flat]
theorem flat_one (m : M) : flat [m] = mcells m := by simp [flat]
theorem flat_length (ms : List M) : (flat ms).length = ms.length * 3 := by
  induction ms with
  | nil => rfl
  | cons m t ih =>
    show (mcells m ++ flat t).length = (t.length + 1) * 3
    rw [List.length_append, ih]
    simp [mcells]
    omega
theorem flat_get (ms : List M) (i : Nat) (m : M) (h : ms[i]? = some m) (j : Nat) (v : Value) (hv : (mcells m)[j]? = some v) : (flat ms)[i * 3 + j]? = some v := by
  induction ms generalizing i with
  | nil => simp at h
  | cons m' t ih =>
    show (mcells m' ++ flat t)[i * 3 + j]? = some v
    have hj : j < 3 := (List.getElem?_eq_some_iff.1 hv).1
    cases i with
    | zero =>
      obtain rfl : m' = m := by simpa using h
      rw [List.getElem?_append_left (by simp [mcells]; omega)]
      simpa using hv
    | succ i =>
      rw [List.getElem?_append_right (by simp [mcells]; omega)]
      have := ih i (by simpa using h)
      rw [← this]
      congr 1
      simp [mcells]
      omega

/-- A slice of messages whose cells can be read. -/
def RdMs (w : World) (a : Option Addr) (ms : List M) : Prop := ms ≠ [] → ∃ g o, a = some ⟨g, o, none⟩ ∧ g < w.heap.size ∧ w.rangeAt g o (flat ms)

theorem RdMs.mod {w w' : World} {S : List Nat} {a : Option Addr} {ms : List M} (h : RdMs w a ms) (hm : Mod S w w') (hs : ∀ g o, a = some ⟨g, o, none⟩ → g ∉ S) : RdMs w' a ms := fun hne => by
  obtain ⟨g, o, rfl, hlt, hr⟩ := h hne
  exact ⟨g, o, rfl, Nat.lt_of_lt_of_le hlt hm.size, rangeAt_mod hr hlt hm (hs g o rfl)⟩

theorem RdMs.at {w : World} {g o : Nat} {ms : List M} (h : w.rangeAt g o (flat ms)) {i : Nat} {m : M} (hi : ms[i]? = some m) : w.rangeAt g (o + i * 3) (mcells m) := fun j v hv => by
  have := h (i * 3 + j) v (flat_get ms i m hi j v hv)
  rw [← Nat.add_assoc] at this
  exact this

/-- The call's own row of messages. -/
def OwnMs (w : World) (B : Nat) (v : Value) (ms : List M) : Prop := w.ownsRow B 189 3 v ms.length (flat ms)

theorem OwnMs.nil (w : World) (B : Nat) : OwnMs w B (.slice none 0 0) [] := ⟨rfl, .inl ⟨rfl, rfl⟩⟩
theorem OwnMs.empty {w : World} {B g : Nat} (h : w.heap[g]? = some (.cells #[] 189 (0, 0))) (hB : B ≤ g) : OwnMs w B (.slice (some ⟨g, 0, none⟩) 0 0) [] :=
  ⟨rfl, .inr ⟨g, 0, #[], rfl, hB, h, Nat.le_refl _, by simp, rfl, rfl⟩⟩
theorem OwnMs.mod {w w' : World} {B : Nat} {v : Value} {ms : List M} {S : List Nat} (h : OwnMs w B v ms) (hm : Mod S w w') (hs : ∀ b, v.ownBlock = some b → b ∉ S) : OwnMs w' B v ms := by
  obtain ⟨hl, h⟩ := h
  refine ⟨hl, ?_⟩
  rcases h with ⟨rfl, h0⟩ | ⟨g, cap, cur, rfl, hB, hg, h1, h2, h3, h4⟩
  · exact .inl ⟨rfl, h0⟩
  · exact .inr ⟨g, cap, cur, rfl, hB, (hm.block g (Array.getElem?_eq_some_iff.1 hg).1 (hs g rfl)).trans hg, h1, h2, h3, h4⟩
theorem OwnMs.own_ge {w : World} {B : Nat} {v : Value} {ms : List M} (h : OwnMs w B v ms) : ∀ b, v.ownBlock = some b → B ≤ b ∧ b < w.heap.size := by
  obtain ⟨hl, h⟩ := h
  intro b hb
  rcases h with ⟨rfl, h0⟩ | ⟨g, cap, cur, rfl, hB, hg, h1, h2, h3, h4⟩
  · cases hb
  · obtain rfl : g = b := by simpa [Value.ownBlock] using hb
    exact ⟨hB, (Array.getElem?_eq_some_iff.1 hg).1⟩
theorem OwnMs.shape {w : World} {B : Nat} {v : Value} {ms : List M} (h : OwnMs w B v ms) :
    ∃ a c, v = .slice a ms.length c ∧ RdMs w a ms ∧ (a = none → c = 0) ∧ ms.length ≤ c ∧ c ≤ maxLen ∧ ∀ ad, a = some ad → ∃ g, ad = ⟨g, 0, none⟩ ∧ B ≤ g := by
  have hown := h
  obtain ⟨hl, h⟩ := h
  rcases h with ⟨rfl, h0⟩ | ⟨g, cap, cur, rfl, hB, hg, h1, h2, h3, h4⟩
  · have : ms = [] := List.eq_nil_of_length_eq_zero h0
    subst this
    exact ⟨none, 0, rfl, fun h => absurd rfl h, fun _ => rfl, Nat.le_refl _, by simp, fun ad h => by cases h⟩
  · refine ⟨some ⟨g, 0, none⟩, cap, rfl, fun _ => ⟨g, 0, rfl, (Array.getElem?_eq_some_iff.1 hg).1, fun j x hj => ?_⟩, fun h => (by cases h), h1, h2, fun ad h => ⟨g, by cases h; rfl, hB⟩⟩
    have hlt : j < ms.length * 3 := by rw [← flat_length]; exact (List.getElem?_eq_some_iff.1 hj).1
    have := hown.cellAt j hlt
    rw [Nat.zero_add]
    exact this.trans hj

theorem infoMsg : ∃ i, Tryz.prog.info? 189 = some i ∧ i.zero = some (.agg #[.int .i64 0, .int .u64 0, .string ⟨#[]⟩]) ∧ i.size = 3 ∧ i.bytes ≤ 64 := by
  have h : (Tryz.prog.info? 189).map (fun i => (i.zero, i.size, decide (i.bytes ≤ 64))) = some (some (.agg #[.int .i64 0, .int .u64 0, .string ⟨#[]⟩]), 3, true) := by kernel_rfl
  cases hi : Tryz.prog.info? 189 with
  | none => rw [hi] at h; cases h
  | some i =>
    rw [hi] at h
    simp at h
    exact ⟨i, rfl, h.1, h.2.1, h.2.2⟩

/-- 'append(l, m)': l the call's own; the new one lies in a block of one message. -/
theorem wpList_append_msg {w : World} {ops : Array Oper} {rest : List Oper} {o : Oper} {a : Act} {Q : Exit → Act → World → Prop} (hgd : o.guard = none) (s x : Operand)
    (ho : o.op = .call { callee := .builtin .append, args := #[s, x], argTypes := #[337, 337] })
    (B : Nat) (v : Value) (ms : List M) (hs : a.eval s = v) (hown : OwnMs w B v ms) (g c : Nat) (m : M) (hx : a.eval x = .slice (some ⟨g, 0, none⟩) 1 c) (hr : w.rangeAt g 0 (mcells m))
    (hlen : ms.length < 1000000) (hB : B ≤ w.heap.size)
    (h : ∀ v' w', OwnMs w' B v' (ms ++ [m]) → w.grownBy w' v.ownBlock → (v'.ownBlock = v.ownBlock ∨ v'.ownBlock = some w.heap.size) → wpList Tryz.prog ops Q rest (a.put o.dst v') w') :
    wpList Tryz.prog ops Q (o :: rest) a w := by
  obtain ⟨i, hi, hz, hsz, hby⟩ := infoMsg
  refine wpList_append_own_at w hgd s x _ ho B 189 i _ 3 i.bytes Tryz.underlying337 hi hz hsz rfl rfl (by decide) v ms.length _ hs hown ⟨g, 0, none⟩ 1 c (mcells m) hx rfl ?_ ?_ (by unfold maxLen; omega) ?_ hB ?_
  · intro j u hj
    rw [Addr.add_mid]
    exact hr j u hj
  · intro u hu
    simp [mcells] at hu
    rcases hu with rfl | rfl | rfl <;> rfl
  · have := Nat.mul_le_mul (show ms.length + 1 ≤ 1000000 by omega) hby
    omega
  · intro v' w' h1 h2 _ h4
    refine h v' w' ?_ h2 h4
    have e : flat (ms ++ [m]) = flat ms ++ mcells m := by rw [flat_append, flat_one]
    unfold OwnMs
    rw [e, List.length_append]
    exact h1

end Go.Proofs.YtpbamamplmbgjaaGreatDoor
