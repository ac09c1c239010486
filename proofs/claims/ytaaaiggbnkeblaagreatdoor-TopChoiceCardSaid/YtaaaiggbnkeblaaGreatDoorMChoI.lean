/-
  Maps of six method values; the beginning of a turn's Hear.
  Plain facts for promised and decide.
-/
import Derived.Test.YtaaaiggbnkeblaaGreatDoorMChoE
import Derived.Deep.DeepCutAuto
namespace Go.Proofs.YtaaaiggbnkeblaaGreatDoor
set_option linter.unusedSimpArgs false
set_option linter.unusedVariables false
open Go.RowKit

section
variable {P : Program} {w : World} {b : Nat} {t K E : TypeId}
theorem mrun_find {k : Int} {es : List MapEntry} {r : Option (Nat × Value)} (hK : P.underlying K = some (.int .i64)) (h : Instr.findNow (.int .i64) (.int .i64 k) es 0 = some r) : (Instr.findKey K (.int .i64 k) es).run P w = .ok r w := by
  simp [Instr.findKey, mrun_underlying hK, Sem.run_bind, Result.andThen, h]
theorem mrun_update_no {c : Nat} {k : Int} {v : Value} {es : Array MapEntry} (ht : P.underlying t = some (.map K E)) (hK : P.underlying K = some (.int .i64)) (h : w.heap[b]? = some (.map es c)) (hf : Instr.findNow (.int .i64) (.int .i64 k) es.toList 0 = some none) :
    (Instr.mapUpdate t (.map (some b)) (.int .i64 k) v).run P w = .ok () (w.putObj b (.map (es.push { key := .int .i64 k, val := v, born := c }) (c + 1))) := by
  simp [Instr.mapUpdate, mrun_underlying ht, Sem.run_bind, Result.andThen, mrun_getMap h, mrun_check _ _ hK, mrun_find hK hf, mrun_setMap _ h]
theorem mrun_look_at {c i : Nat} {k : Int} {u : Value} {es : Array MapEntry} (ht : P.underlying t = some (.map K E)) (hK : P.underlying K = some (.int .i64)) (h : w.heap[b]? = some (.map es c)) (hf : Instr.findNow (.int .i64) (.int .i64 k) es.toList 0 = some (some (i, u))) :
    (Instr.lookup t (.map (some b)) (.int .i64 k) true).run P w = .ok (.tuple #[u, .bool true]) w := by
  simp [Instr.lookup, mrun_underlying ht, Sem.run_bind, Result.andThen, mrun_getMap h, mrun_check _ _ hK, mrun_find hK hf]
end

def hfun (f t : Nat) : Value := .func (.func f) #[.pointer (some ⟨t, 0, none⟩)] #[]
/-- The map of Hear, of so many entries. -/
def hes (t : Nat) : Array MapEntry := #[{ key := .int .i64 4, val := hfun 38 t, born := 0 }, { key := .int .i64 5, val := hfun 39 t, born := 1 }, { key := .int .i64 6, val := hfun 40 t, born := 2 }, { key := .int .i64 7, val := hfun 41 t, born := 3 }, { key := .int .i64 8, val := hfun 42 t, born := 4 }, { key := .int .i64 9, val := hfun 43 t, born := 5 }]
def HUp (t b : Nat) (k : Int) (f : Nat) (w w' : World) : Prop := (Instr.mapUpdate 117 (.map (some b)) (.int .i64 k) (.func (.func f) #[.pointer (some ⟨t, 0, none⟩)] #[])).run Tryz.prog w = .ok () w'
theorem mod_put {w : World} {b : Nat} {o : Obj} : Mod [b] w (w.putObj b o) := by
  refine ⟨rfl, rfl, rfl, by simp [World.putObj], fun k hk hks => ?_⟩
  simp at hks
  simp [World.putObj, Array.getElem?_setIfInBounds, Ne.symm hks]
/-- The six puts. -/
theorem hear_map (t b : Nat) (w : World) (h : w.heap[b]? = some (.map #[] 0)) : ∃ w1 w2 w3 w4 w5 w6, HUp t b 4 38 w w1 ∧ HUp t b 5 39 w1 w2 ∧ HUp t b 6 40 w2 w3 ∧ HUp t b 7 41 w3 w4 ∧ HUp t b 8 42 w4 w5 ∧ HUp t b 9 43 w5 w6 ∧ Mod [b] w w6 ∧ w6.heap[b]? = some (.map (hes t) 6) := by
  have hlt : b < w.heap.size := (Array.getElem?_eq_some_iff.1 h).1
  have put : ∀ (w : World) (o : Obj), b < w.heap.size → (w.putObj b o).heap[b]? = some o ∧ b < (w.putObj b o).heap.size := fun w o hb => by simp [World.putObj, Array.getElem?_setIfInBounds, hb]
  have h1 := put w (.map #[{ key := .int .i64 4, val := hfun 38 t, born := 0 }] 1) hlt
  have h2 := put _ (.map #[{ key := .int .i64 4, val := hfun 38 t, born := 0 }, { key := .int .i64 5, val := hfun 39 t, born := 1 }] 2) h1.2
  have h3 := put _ (.map #[{ key := .int .i64 4, val := hfun 38 t, born := 0 }, { key := .int .i64 5, val := hfun 39 t, born := 1 }, { key := .int .i64 6, val := hfun 40 t, born := 2 }] 3) h2.2
  have h4 := put _ (.map #[{ key := .int .i64 4, val := hfun 38 t, born := 0 }, { key := .int .i64 5, val := hfun 39 t, born := 1 }, { key := .int .i64 6, val := hfun 40 t, born := 2 }, { key := .int .i64 7, val := hfun 41 t, born := 3 }] 4) h3.2
  have h5 := put _ (.map #[{ key := .int .i64 4, val := hfun 38 t, born := 0 }, { key := .int .i64 5, val := hfun 39 t, born := 1 }, { key := .int .i64 6, val := hfun 40 t, born := 2 }, { key := .int .i64 7, val := hfun 41 t, born := 3 }, { key := .int .i64 8, val := hfun 42 t, born := 4 }] 5) h4.2
  have h6 := put _ (.map (hes t) 6) h5.2
  refine ⟨_, _, _, _, _, _, mrun_update_no (es := #[]) Tryz.underlying117 Tryz.underlying3 h rfl, mrun_update_no Tryz.underlying117 Tryz.underlying3 h1.1 rfl, mrun_update_no Tryz.underlying117 Tryz.underlying3 h2.1 rfl, mrun_update_no Tryz.underlying117 Tryz.underlying3 h3.1 rfl, mrun_update_no Tryz.underlying117 Tryz.underlying3 h4.1 rfl, mrun_update_no Tryz.underlying117 Tryz.underlying3 h5.1 rfl, ?_, h6.1⟩
  exact (((((mod_put.trans mod_put).trans mod_put).trans mod_put).trans mod_put).trans mod_put)

theorem own_s (t : Nat) (s : TS) (l : Let) (hb : (s.bal == 0) = false) (hl : l.bal = s.bal) (w : World) (h : TEnv w t s) :
    Calls Tryz.prog 82 #[.pointer (some ⟨t, 0, none⟩), .agg l.v] w fun e w' => e = .returned (.bool true) ∧ Mod [] w w' := own_yes t s.c l s.bal w h.1 rfl hb hl

/-- What freeze makes of a turn. -/
def TS.freeze (s : TS) (r : Int) : TS := if s.frozen = true then s else { s with frozen := true, reach := r }
theorem freeze_s (t : Nat) (s : TS) (r : Int) (w : World) (h : TEnv w t s) : Calls Tryz.prog 32 #[.pointer (some ⟨t, 0, none⟩), .int .u64 r] w fun e w' => e = .returned (.tuple #[]) ∧ TEnv w' t (s.freeze r) ∧ Mod [t] w w' := by
  cases hf : s.frozen with
  | true =>
    have e : s.freeze r = s := by simp [TS.freeze, hf]
    rw [e]
    refine (freeze_old t s.c r w h.1 (by show Value.bool s.frozen = _; rw [hf])).mono ?_
    rintro _ w' ⟨rfl, hM⟩
    exact ⟨rfl, h.mod0 hM, hM.mono (by simp)⟩
  | false =>
    have e : s.freeze r = { s with frozen := true, reach := r } := by simp [TS.freeze, hf]
    rw [e]
    refine (freeze_new t s.c r w h.1 (by show Value.bool s.frozen = _; rw [hf])).mono ?_
    rintro _ w' ⟨rfl, hT, hM⟩
    refine ⟨rfl, h.own hM ?_, hM⟩
    rw [TS.set7, TS.set8] at hT
    exact hT

/-- At a step of a region that draws its order: an append whose run is known. -/
theorem step_append_run {P : Program} {w : World} {ops : Array Oper} {o : Oper} {a : Act} {K : Act → World → Prop} {Q : Exit → Act → World → Prop} {E : Prop} (hgd : o.guard = none) (s x : Operand) (t : TypeId)
    (ho : o.op = .call { callee := .builtin .append, args := #[s, x], argTypes := #[t, t] }) (v y v' : Value) (w' : World) (hs : a.eval s = v) (hx : a.eval x = y) (hr : (Builtin.append_ #[t, t] o.type #[v, y]).run P w = .ok v' w') (h : K (a.put o.dst v') w') :
    if Region.wanted o (yielded ops a.tmps) = true then Oper.wp P o a w K Q else E := by
  have hw : Region.wanted o (yielded ops a.tmps) = true := by simp [Region.wanted, hgd]
  rw [if_pos hw]
  unfold Oper.wp execOp
  simp only [ho, resolve, invoke, builtin, Sem.run_bind, Sem.run_pure, Result.andThen_ok, List.map_toArray, List.map_cons, List.map_nil, hs, hx, hr]
  exact h
theorem wpl_append_run {P : Program} (w : World) {ops : Array Oper} {rest : List Oper} {o : Oper} {a : Act} {Q : Exit → Act → World → Prop} (hgd : o.guard = none) (s x : Operand) (t : TypeId)
    (ho : o.op = .call { callee := .builtin .append, args := #[s, x], argTypes := #[t, t] }) (v u : Value) (hs : a.eval s = v) (hx : a.eval x = u) {v' : Value} {w' : World}
    (hr : (Builtin.append_ #[t, t] o.type #[v, u]).run P w = .ok v' w') (h : wpList P ops Q rest (a.put o.dst v') w') : wpList P ops Q (o :: rest) a w := by
  refine wpList_plain hgd fun K hK => ?_
  unfold Oper.wp execOp
  simp only [ho, resolve, invoke, builtin, Sem.run_bind, Sem.run_pure, Result.andThen_ok, List.map_toArray, List.map_cons, List.map_nil, hs, hx, hr]
  exact hK _ _ h

/-- Letters that can be read: a slice's, from some cell on. -/
def LRead (w : World) (x : Value) (L : List Let) : Prop := (L = [] ∧ x = .slice none 0 0) ∨ ∃ ad c, x = .slice (some ad) L.length c ∧ ∀ j u, (lflat L)[j]? = some u → w.cell? (ad.add j) = some u
theorem Lets.read {w : World} {B : Nat} {x : Value} {L : List Let} (h : Lets w B x L) : LRead w x L := by
  obtain ⟨hl, h⟩ := h
  rcases h with ⟨rfl, h0⟩ | ⟨g, cap, cur, rfl, hB, hg, h1, h2, h3, h4⟩
  · exact .inl ⟨List.length_eq_zero_iff.1 h0, rfl⟩
  · refine .inr ⟨⟨g, 0, none⟩, cap, rfl, fun j u hj => ?_⟩
    rw [add_lit, Nat.zero_add]
    rw [← h4, List.getElem?_take] at hj
    split at hj
    · exact cell_in hg (by simpa using hj)
    · cases hj
/-- append of letters onto letters of one's own. -/
theorem letters_append (w : World) (B : Nat) (v x : Value) (L M : List Let) (hv : Lets w B v L) (hx : LRead w x M) (hlen : L.length + M.length ≤ 1000) (hB : B ≤ w.heap.size) :
    ∃ v' w', (Builtin.append_ #[30, 30] 30 #[v, x]).run Tryz.prog w = .ok v' w' ∧ Lets w' B v' (L ++ M) ∧ w.grownBy w' v.ownBlock := by
  obtain ⟨il, hil, hlz, hls, hlb⟩ := infoLetter
  rcases hx with ⟨rfl, rfl⟩ | ⟨ad, c, rfl, hx⟩
  · refine ⟨v, w, run_append_owned_none (P := Tryz.prog) (w := w) B 30 30 42 il 16 Tryz.underlying30 hil v L.length _ hv, ?_, World.grownBy.refl w _⟩
    rw [List.append_nil]
    exact hv
  · have hby : (L.length + M.length) * il.bytes ≤ 140737488355328 := by
      have := Nat.mul_le_mul hlen hlb
      omega
    obtain ⟨v', w', hr, h2, h3, _, _⟩ := run_append_own_at (P := Tryz.prog) w B 30 30 42 il letZ 16 il.bytes Tryz.underlying30 hil hlz hls rfl rfl (by decide) v L.length _ hv ad M.length c (lflat M) (lflat_len M) hx (lflat_one M) (by unfold maxLen; omega) hby hB
    refine ⟨v', w', hr, ?_, h3⟩
    unfold Lets
    rw [List.length_append, lflat_append]
    exact h2

end Go.Proofs.YtaaaiggbnkeblaaGreatDoor

namespace Go.Proofs.YtaaaiggbnkeblaaGreatDoor
set_option linter.unusedSimpArgs false
set_option linter.unusedVariables false
open Go.RowKit

/-- A promise's cells are none: written anew they are as they were. -/
theorem TurnAt.sp {w : World} {t : Nat} {s : TS} (h : TurnAt w t s.c) (j : Nat) (h1 : 14 ≤ j) (h2 : j < 206) : TurnAt (w.setCell ⟨t, j, none⟩ (.int .u64 0)) t s.c := by
  have h3 := h.set j (by omega) (.int .u64 0)
  have e : setC s.c j (.int .u64 0) = s.c := by
    funext i
    unfold setC
    split
    · rename_i hi
      subst hi
      exact (TS.prom s i h1 h2).symm
    · rfl
  rwa [e] at h3

/-- Two lists of letters, one behind the other. -/
theorem append_two {W w5 w6 : World} {t : Nat} {s0 s : TS} {L1 L2 : List Let} {v5 v6 : Value} (h0 : TEnv W t s0) (h5 : OutPost W.drew t s L1 v5 w5) (h6 : OutPost w5 t s L2 v6 w6) (hlen : L1.length + L2.length ≤ 1000) :
    ∃ v7 w7, (Builtin.append_ #[30, 30] 30 #[v5, v6]).run Tryz.prog w6 = .ok v7 w7 ∧ Lets w7 W.heap.size v7 (L1 ++ L2) ∧ TEnv w7 t s ∧ Mod [t] W w7 := by
  have hM5 : Mod [t] W w5 := (Mod.refl [t] W).drew.trans h5.2.2.2
  have hM6 := hM5.trans h6.2.2.2
  have h5' : Lets w5 W.heap.size v5 L1 := h5.1
  have hv5 : Lets w6 W.heap.size v5 L1 := h5'.mod h6.2.2.2 (fun x hx => by
    simp at hx
    subst hx
    exact h0.1.lt)
  obtain ⟨v7, w7, hrun, hL7, hg7⟩ := letters_append w6 W.heap.size v5 v6 L1 L2 hv5 h6.1.read hlen hM6.size
  have hge7 := ownsRow_ge hv5
  have hm7 := Mod.grownOwn (Mod.refl [] w6) hg7
  have hnt : t ∉ v5.ownBlock.toList := fun hb => by
    rw [Option.mem_toList] at hb
    have h1 := (hge7 t hb).1
    have h2 := h0.1.lt
    omega
  have hng : 1 ∉ v5.ownBlock.toList := fun hb => by
    rw [Option.mem_toList] at hb
    have h1 := (hge7 _ hb).1
    have h2 : 1 < W.heap.size := h0.2.1.1
    omega
  exact ⟨v7, w7, hrun, hL7, h6.2.2.1.mod hm7 hnt hng, hM6.step hm7 (fun x hx => by
    rw [Option.mem_toList] at hx
    exact .inr (hge7 x hx).1)⟩

end Go.Proofs.YtaaaiggbnkeblaaGreatDoor
