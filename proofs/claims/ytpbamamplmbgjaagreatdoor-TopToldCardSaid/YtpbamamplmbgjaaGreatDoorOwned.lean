/-
  Rows of the call's own that grow by append; numbers.
-/
import Derived.Test.YtpbamamplmbgjaaGreatDoorBase
import Derived.Maps.AppendAt
import Derived.Laws.AppendOwnNone
namespace Go.Proofs.YtpbamamplmbgjaaGreatDoor
set_option linter.unusedSimpArgs false
set_option linter.unusedVariables false
open Go.RowKit

/-- A row of numbers of the call's own, from block B on. -/
def Owned (k : IntKind) (e : TypeId) (w : World) (B : Nat) (v : Value) (xs : List Int) : Prop := w.ownsRow B e 1 v xs.length (xs.map (Value.int k))

theorem Owned.shape {k : IntKind} {e : TypeId} {w : World} {B : Nat} {v : Value} {xs : List Int} (h : Owned k e w B v xs) :
    ∃ a c, v = .slice a xs.length c ∧ RdInts k w a xs ∧ (a = none → c = 0) ∧ xs.length ≤ c ∧ c ≤ maxLen ∧ ∀ ad, a = some ad → ∃ g, ad = ⟨g, 0, none⟩ ∧ B ≤ g := by
  obtain ⟨hl, h⟩ := h
  rcases h with ⟨rfl, h0⟩ | ⟨g, cap, cur, rfl, hB, hg, h1, h2, h3, h4⟩
  · have : xs = [] := List.eq_nil_of_length_eq_zero h0
    subst this
    exact ⟨none, 0, rfl, fun h => absurd rfl h, fun _ => rfl, Nat.le_refl _, by simp, fun ad h => by cases h⟩
  · refine ⟨some ⟨g, 0, none⟩, cap, rfl, fun _ => ⟨_, rfl, (Array.getElem?_eq_some_iff.1 hg).1, fun j x hj => ?_⟩, fun h => (by cases h), h1, h2, fun ad h => ⟨g, by cases h; rfl, hB⟩⟩
    rw [add_lit, Nat.zero_add]
    have e1 : (cur.toList.take (xs.length * 1))[j]? = some (Value.int k x) := by rw [h4]; simp [hj]
    have hjl : j < xs.length := (List.getElem?_eq_some_iff.1 hj).1
    rw [List.getElem?_take_of_lt (by omega)] at e1
    simp only [World.cell?, hg]
    simpa using e1

theorem Owned.mod {k : IntKind} {e : TypeId} {w w' : World} {B : Nat} {v : Value} {xs : List Int} {S : List Nat} (h : Owned k e w B v xs) (hm : Mod S w w') (hs : ∀ b, v.ownBlock = some b → b ∉ S) : Owned k e w' B v xs := by
  obtain ⟨hl, h⟩ := h
  refine ⟨hl, ?_⟩
  rcases h with ⟨rfl, h0⟩ | ⟨g, cap, cur, rfl, hB, hg, h1, h2, h3, h4⟩
  · exact .inl ⟨rfl, h0⟩
  · exact .inr ⟨g, cap, cur, rfl, hB, (hm.block g (Array.getElem?_eq_some_iff.1 hg).1 (hs g rfl)).trans hg, h1, h2, h3, h4⟩

theorem Owned.nil (k : IntKind) (e : TypeId) (w : World) (B : Nat) : Owned k e w B (.slice none 0 0) [] := ⟨rfl, .inl ⟨rfl, rfl⟩⟩

theorem Owned.empty (k : IntKind) {e : TypeId} {w : World} {B g : Nat} (h : w.heap[g]? = some (.cells #[] e (0, 0))) (hB : B ≤ g) : Owned k e w B (.slice (some ⟨g, 0, none⟩) 0 0) [] :=
  ⟨rfl, .inr ⟨g, 0, #[], rfl, hB, h, Nat.le_refl _, by simp, rfl, rfl⟩⟩

theorem Owned.own_ge {k : IntKind} {e : TypeId} {w : World} {B : Nat} {v : Value} {xs : List Int} (h : Owned k e w B v xs) : ∀ b, v.ownBlock = some b → B ≤ b ∧ b < w.heap.size := by
  obtain ⟨hl, h⟩ := h
  intro b hb
  rcases h with ⟨rfl, h0⟩ | ⟨g, cap, cur, rfl, hB, hg, h1, h2, h3, h4⟩
  · cases hb
  · obtain rfl : g = b := by simpa [Value.ownBlock] using hb
    exact ⟨hB, (Array.getElem?_eq_some_iff.1 hg).1⟩

/-- 'append(out, l...)': out the call's own, l whatever slice of numbers. -/
theorem wpList_append_rd {P : Program} {w : World} {ops : Array Oper} {rest : List Oper} {o : Oper} {a : Act} {Q : Exit → Act → World → Prop} (hgd : o.guard = none) (s x : Operand) (t : TypeId)
    (ho : o.op = .call { callee := .builtin .append, args := #[s, x], argTypes := #[t, t] })
    (B : Nat) (e : TypeId) (k : IntKind) (bytes : Nat) (ht : P.underlying t = some (.slice e)) (hinfo : (P.info? e).map (fun i => (i.zero, i.size, i.bytes)) = some (some (.int k 0), 1, bytes))
    (v : Value) (xs : List Int) (hs : a.eval s = v) (hown : Owned k e w B v xs) (sp : Option Addr) (c : Nat) (ys : List Int) (hx : a.eval x = .slice sp ys.length c) (hr : RdInts k w sp ys) (hnc : sp = none → c = 0)
    (h63 : xs.length + ys.length ≤ maxLen) (hbytes : (xs.length + ys.length) * bytes ≤ 140737488355328) (hB : B ≤ w.heap.size)
    (h : ∀ v' w', Owned k e w' B v' (xs ++ ys) → w.grownBy w' v.ownBlock → (v'.ownBlock = v.ownBlock ∨ v'.ownBlock = some w.heap.size) → wpList P ops Q rest (a.put o.dst v') w') :
    wpList P ops Q (o :: rest) a w := by
  obtain ⟨i, hi, hz, hsz, hby⟩ := info_parts hinfo
  cases sp with
  | none =>
    obtain rfl := hnc rfl
    have hys : ys = [] := by
      by_cases hy : ys = []
      · exact hy
      · obtain ⟨ad, h, _⟩ := hr hy
        cases h
    subst hys
    refine wpList_append_own_none hgd s x t ho B e i 1 ht hi v xs.length _ hs hown hx ?_
    exact h v w (by simpa using hown) (World.grownBy.refl w _) (.inl rfl)
  | some ad =>
    refine wpList_append_own_at w hgd s x t ho B e i (.int k 0) 1 bytes ht hi hz hsz hby rfl (by decide) v xs.length _ hs hown ad ys.length c (ys.map (Value.int k)) hx (by simp) ?_ (ints_oneCell _ _) h63 hbytes hB ?_
    · intro j u hj
      simp only [List.getElem?_map, Option.map_eq_some_iff] at hj
      obtain ⟨y, hy, rfl⟩ := hj
      obtain ⟨ad', he, _, h3⟩ := hr (by intro h; rw [h] at hy; simp at hy)
      cases he
      exact h3 j y hy
    · intro v' w' h1 h2 _ h4
      exact h v' w' (by unfold Owned; simpa using h1) h2 h4

end Go.Proofs.YtpbamamplmbgjaaGreatDoor
