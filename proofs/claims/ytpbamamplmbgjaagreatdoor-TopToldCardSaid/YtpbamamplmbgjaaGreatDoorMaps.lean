/-
  A map of the call's own, from int to an integer kind, told by a function; its laws at the operations.
-/
import Derived.Test.YtpbamamplmbgjaaGreatDoorBase
import Derived.Maps.OwnOps
import Derived.Maps.OwnSet
namespace Go.Proofs.YtpbamamplmbgjaaGreatDoor
set_option linter.unusedSimpArgs false
set_option linter.unusedVariables false
open Go.RowKit
open Go.Maps (Keyed int_keyed)

/-- Block b of w is a map from int to q that holds just what f tells: sz entries. -/
def OMap (P : Program) (K E : TypeId) (q : IntKind) (w : World) (b : Nat) (f : Int → Option Int) (sz : Nat) : Prop :=
  ∃ (D : DataW Unit) (n : Nat), w.ownsMap P K (plainElem P E) b n D ∧ (∀ k, Maps.has D (.int .i64 k) = (f k).isSome) ∧ (∀ k, D.atKey (.int .i64 k) (.lit (.int q 0)) = .lit (.int q ((f k).getD 0))) ∧ Maps.size D = sz ∧ n = sz

def updO (f : Int → Option Int) (k v : Int) : Int → Option Int := fun x => if x = k then some v else f x
def sizeO (f : Int → Option Int) (k : Int) (sz : Nat) : Nat := if (f k).isSome then sz else sz + 1

section
variable {P : Program} {K E : TypeId} {q : IntKind} {w : World} {b sz : Nat} {f : Int → Option Int}

theorem OMap.same {w' : World} (h : OMap P K E q w b f sz) (hb : w'.heap[b]? = w.heap[b]?) : OMap P K E q w' b f sz := by
  obtain ⟨D, n, ⟨es, clock, h1, h2, h3, h4⟩, h5⟩ := h
  exact ⟨D, n, ⟨es, clock, hb.trans h1, h2, h3, h4⟩, h5⟩
theorem OMap.lt (h : OMap P K E q w b f sz) : b < w.heap.size := by
  obtain ⟨D, n, h1, _⟩ := h
  exact h1.lt
theorem OMap.mod {w' : World} {S : List Nat} (h : OMap P K E q w b f sz) (hm : Mod S w w') (hs : b ∉ S) : OMap P K E q w' b f sz := h.same (hm.block b h.lt hs)

theorem OMap.made (P : Program) (K E : TypeId) (q : IntKind) (w : World) : OMap P K E q (w.alloc (.map #[] 0)) w.heap.size (fun _ => none) 0 :=
  ⟨.map [], 0, World.ownsMap_made w P K _, fun _ => rfl, fun _ => rfl, rfl, rfl⟩

theorem OMap.upd {w' : World} {k v : Int} {D : DataW Unit} (n : Nat) (h : w'.ownsMap P K (plainElem P E) b (n + 1) (D.put (.int .i64 k) (.lit (.int q v)))) (h0 : w.ownsMap P K (plainElem P E) b n D) (KK : Keyed P K)
    (h1 : ∀ k, Maps.has D (.int .i64 k) = (f k).isSome) (h2 : ∀ k, D.atKey (.int .i64 k) (.lit (.int q 0)) = .lit (.int q ((f k).getD 0))) (h3 : Maps.size D = sz) (hn : n = sz) : OMap P K E q w' b (updO f k v) (sizeO f k sz) := by
  have hk : WideAt.IsKeyLit (.int .i64 k) := trivial
  have hs : Maps.size (D.put (.int .i64 k) (.lit (.int q v))) = sizeO f k sz := by
    rw [Maps.size_put (h0.tidy KK), h1 k, h3]
    rfl
  have hD := h0.isMap
  have hb : ∃ n', n' = sizeO f k sz ∧ w'.ownsMap P K (plainElem P E) b n' (D.put (.int .i64 k) (.lit (.int q v))) := by
    refine ⟨_, rfl, ?_⟩
    obtain ⟨es, clock, g1, g2, g3, g4⟩ := h
    refine ⟨es, clock, g1, g2, ?_, g4⟩
    have e1 : es.size = Maps.size (D.put (.int .i64 k) (.lit (.int q v))) := by
      rw [g4, Maps.size_eq, length_sorted]
      simp
    rw [e1, hs]
    exact Nat.le_refl _
  obtain ⟨n', hn', hown⟩ := hb
  refine ⟨_, n', hown, fun x => ?_, fun x => ?_, hs, hn'⟩
  · unfold updO
    by_cases hx : x = k
    · subst hx
      rw [Maps.has_put_same hD hk]
      simp
    · rw [Maps.has_put_other (by intro e; injection e with _ e; exact hx e), h1]
      simp [hx]
  · unfold updO
    by_cases hx : x = k
    · subst hx
      rw [Maps.atKey_put_same hD hk]
      simp
    · rw [Maps.atKey_put_other (by intro e; injection e with _ e; exact hx e), h2]
      simp [hx]

theorem OMap.alloc (h : OMap P K E q w b f sz) (o : Obj) : OMap P K E q (w.alloc o) b f sz := h.mod ((Mod.refl [] w).alloc o) (by simp)
theorem OMap.drew (h : OMap P K E q w b f sz) : OMap P K E q w.drew b f sz := h

theorem OMap.run_look (hown : OMap P K E q w b f sz) (t : TypeId) (hK : P.underlying K = some (.int .i64)) (ht : P.underlying t = some (.map K E)) (he : P.underlying E = some (.int q))
    (hz : ∀ w, (zeroValue E).run P w = .ok (.int q 0) w) (k c : Int) (hwf : (Lit.int .i64 k).wf = true) (hc : (f k).getD 0 = c) : (Instr.lookup t (.map (some b)) (.int .i64 k) false).run P w = .ok (.int q c) w := by
  obtain ⟨D, n, h1, h2, h3, h4, h5⟩ := hown
  obtain ⟨c', hrun, hc', _⟩ := h1.lookup_int (int_keyed hK) ht he (hz w) (Maps.keyOf_int_mk hK hwf)
  rw [h3 k, hc] at hc'
  injection hc' with hc'
  injection hc' with _ hc'
  rw [hrun, ← hc']

theorem OMap.run_put (hown : OMap P K E q w b f sz) (t : TypeId) (hK : P.underlying K = some (.int .i64)) (ht : P.underlying t = some (.map K E)) (he : P.underlying E = some (.int q)) (hsz : sz < maxLen) (k u : Int) (hwf : (Lit.int .i64 k).wf = true) (hwu : (Lit.int q u).wf = true) :
    ∃ w', (Instr.mapUpdate t (.map (some b)) (.int .i64 k) (.int q u)).run P w = .ok () w' ∧ OMap P K E q w' b (updO f k u) (sizeO f k sz) ∧ w.grownBy w' (some b) := by
  obtain ⟨D, n, h1, h2, h3, h4, h5⟩ := hown
  obtain ⟨w', hrun, r1, r2⟩ := h1.update (int_keyed hK) ht (by omega) (Maps.keyOf_int_mk hK hwf) (plainElem_int he hwu)
  exact ⟨w', hrun, OMap.upd n r1 h1 (int_keyed hK) h2 h3 h4 h5, r2⟩

variable {ops : Array Oper} {rest : List Oper} {o : Oper} {a : Act} {Q : Exit → Act → World → Prop}

theorem wpList_omap_look (hg : o.guard = none) (m x : Operand) (t : TypeId) (hop : o.op = Op.lookup t m x false) (hK : P.underlying K = some (.int .i64)) (ht : P.underlying t = some (.map K E)) (he : P.underlying E = some (.int q))
    (hz : ∀ w, (zeroValue E).run P w = .ok (.int q 0) w) (f : Int → Option Int) (sz : Nat) (hm : a.eval m = .map (some b)) (hown : OMap P K E q w b f sz) (k c : Int) (hx : a.eval x = .int .i64 k) (hwf : (Lit.int .i64 k).wf = true) (hc : (f k).getD 0 = c)
    (hN : wpList P ops Q rest (a.put o.dst (.int q c)) w) : wpList P ops Q (o :: rest) a w := by
  obtain ⟨D, n, h1, h2, h3, h4, h5⟩ := hown
  refine wpList_lookup_own_int w hg m x t hop K E q (int_keyed hK) ht he (hz w) b n D hm h1 _ (.int .i64 k) hx (Maps.keyOf_int_mk hK hwf) fun c' hc' _ => ?_
  rw [h3 k, hc] at hc'
  injection hc' with hc'
  injection hc' with _ hc'
  rw [← hc']
  exact hN

theorem wpList_omap_ok (hg : o.guard = none) (m x : Operand) (t : TypeId) (hop : o.op = Op.lookup t m x true) (hK : P.underlying K = some (.int .i64)) (ht : P.underlying t = some (.map K E)) (he : P.underlying E = some (.int q))
    (hz : ∀ w, (zeroValue E).run P w = .ok (.int q 0) w) (f : Int → Option Int) (sz : Nat) (hm : a.eval m = .map (some b)) (hown : OMap P K E q w b f sz) (k c : Int) (d : Bool) (hx : a.eval x = .int .i64 k) (hwf : (Lit.int .i64 k).wf = true) (hc : (f k).getD 0 = c) (hd : (f k).isSome = d)
    (hN : wpList P ops Q rest (a.put o.dst (.tuple #[.int q c, .bool d])) w) : wpList P ops Q (o :: rest) a w := by
  obtain ⟨D, n, h1, h2, h3, h4, h5⟩ := hown
  refine wpList_lookup_own_ok_int w hg m x t hop K E q (int_keyed hK) ht he (hz w) b n D hm h1 _ (.int .i64 k) hx (Maps.keyOf_int_mk hK hwf) fun c' hc' _ => ?_
  rw [h3 k, hc] at hc'
  injection hc' with hc'
  injection hc' with _ hc'
  rw [← hc', h2 k, hd]
  exact hN

theorem wpList_omap_put (hg : o.guard = none) (m x v : Operand) (t : TypeId) (hop : o.op = Op.mapUpdate t m x v) (hK : P.underlying K = some (.int .i64)) (ht : P.underlying t = some (.map K E)) (he : P.underlying E = some (.int q))
    (f : Int → Option Int) (sz : Nat) (hm : a.eval m = .map (some b)) (hown : OMap P K E q w b f sz) (hsz : sz < maxLen) (k u : Int) (hx : a.eval x = .int .i64 k) (hv : a.eval v = .int q u) (hwf : (Lit.int .i64 k).wf = true) (hwu : (Lit.int q u).wf = true)
    (hN : ∀ w', OMap P K E q w' b (updO f k u) (sizeO f k sz) → w.grownBy w' (some b) → wpList P ops Q rest (a.put o.dst undef) w') : wpList P ops Q (o :: rest) a w := by
  obtain ⟨D, n, h1, h2, h3, h4, h5⟩ := hown
  refine wpList_mapUpdate_own w hg m x v t hop K E (int_keyed hK) ht (plainElem P E) b n D hm h1 (by omega) _ _ (.int .i64 k) hx hv (Maps.keyOf_int_mk hK hwf) (.lit (.int q u)) [] (plainElem_int he hwu) fun w' hown' hgr => ?_
  exact hN w' (OMap.upd n hown' h1 (int_keyed hK) h2 h3 h4 h5) hgr

theorem wpList_omap_len (hg : o.guard = none) (m : Operand) (t : TypeId) (hop : o.op = Op.call { callee := Callee.builtin Builtin.len, args := #[m], argTypes := #[t] }) (ht : P.underlying t = some (.map K E))
    (f : Int → Option Int) (sz : Nat) (hm : a.eval m = .map (some b)) (hown : OMap P K E q w b f sz)
    (hN : wpList P ops Q rest (a.put o.dst (.int .i64 (sz : Int))) w) : wpList P ops Q (o :: rest) a w := by
  obtain ⟨D, n, h1, h2, h3, h4, h5⟩ := hown
  refine wpList_len_own w hg m t hop K E ht (plainElem P E) b n D hm h1 ?_
  rw [h4]
  exact hN
end

end Go.Proofs.YtpbamamplmbgjaaGreatDoor
