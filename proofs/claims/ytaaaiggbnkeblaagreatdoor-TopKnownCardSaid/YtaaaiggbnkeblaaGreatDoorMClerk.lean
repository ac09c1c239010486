/-
  A map of the call's own, from int to an integer kind, told by a function; its laws at the operations.
  The walks of order's Clerk.
  The walk of order.NewClerk over a map: it keeps what the nodes have.
-/
import Derived.Test.YtaaaiggbnkeblaaGreatDoorMBase
import Derived.Maps.OwnOps
import Derived.Maps.OwnSet
import Derived.Maps.RangeWalk
namespace Go.Proofs.YtaaaiggbnkeblaaGreatDoor
set_option linter.unusedSimpArgs false
set_option linter.unusedVariables false
open Go.RowKit
open Go.Maps (Keyed int_keyed)

/-- Block b of w is a map from int to q that holds just what f tells: sz entries. -/
def OMap (P : Program) (K E : TypeId) (q : IntKind) (w : World) (b : Nat) (f : Int → Option Int) (sz : Nat) : Prop :=
  ∃ (D : DataW Unit) (n : Nat), w.ownsMap P K (plainElem P E) b n D ∧ (∀ k, Maps.has D (.int .i64 k) = (f k).isSome) ∧ (∀ k, D.atKey (.int .i64 k) (.lit (.int q 0)) = .lit (.int q ((f k).getD 0))) ∧ Maps.size D = sz ∧ n = sz

def updO (f : Int → Option Int) (k v : Int) : Int → Option Int := fun x => if x = k then some v else f x
def sizeO (f : Int → Option Int) (k : Int) (sz : Nat) : Nat := if (f k).isSome then sz else sz + 1

section
variable {P : Program} {K E : TypeId} {q : IntKind} {w : World} {b sz : Nat} {f : Int → Option Int}

theorem OMap.same {w' : World} (h : OMap P K E q w b f sz) (hb : w'.heap[b]? = w.heap[b]?) : OMap P K E q w' b f sz := by
  obtain ⟨D, n, ⟨es, clock, h1, h2, h3, h4⟩, h5⟩ := h
  exact ⟨D, n, ⟨es, clock, hb.trans h1, h2, h3, h4⟩, h5⟩
theorem OMap.lt (h : OMap P K E q w b f sz) : b < w.heap.size := by
  obtain ⟨D, n, h1, _⟩ := h
  exact h1.lt
theorem OMap.mod {w' : World} {S : List Nat} (h : OMap P K E q w b f sz) (hm : Mod S w w') (hs : b ∉ S) : OMap P K E q w' b f sz := h.same (hm.block b h.lt hs)

theorem OMap.made (P : Program) (K E : TypeId) (q : IntKind) (w : World) : OMap P K E q (w.alloc (.map #[] 0)) w.heap.size (fun _ => none) 0 :=
  ⟨.map [], 0, World.ownsMap_made w P K _, fun _ => rfl, fun _ => rfl, rfl, rfl⟩

theorem OMap.upd {w' : World} {k v : Int} {D : DataW Unit} (n : Nat) (h : w'.ownsMap P K (plainElem P E) b (n + 1) (D.put (.int .i64 k) (.lit (.int q v)))) (h0 : w.ownsMap P K (plainElem P E) b n D) (KK : Keyed P K)
    (h1 : ∀ k, Maps.has D (.int .i64 k) = (f k).isSome) (h2 : ∀ k, D.atKey (.int .i64 k) (.lit (.int q 0)) = .lit (.int q ((f k).getD 0))) (h3 : Maps.size D = sz) (hn : n = sz) : OMap P K E q w' b (updO f k v) (sizeO f k sz) := by
  have hk : WideAt.IsKeyLit (.int .i64 k) := trivial
  have hs : Maps.size (D.put (.int .i64 k) (.lit (.int q v))) = sizeO f k sz := by
    rw [Maps.size_put (h0.tidy KK), h1 k, h3]
    rfl
  have hD := h0.isMap
  have hb : ∃ n', n' = sizeO f k sz ∧ w'.ownsMap P K (plainElem P E) b n' (D.put (.int .i64 k) (.lit (.int q v))) := by
    refine ⟨_, rfl, ?_⟩
    obtain ⟨es, clock, g1, g2, g3, g4⟩ := h
    refine ⟨es, clock, g1, g2, ?_, g4⟩
    have e1 : es.size = Maps.size (D.put (.int .i64 k) (.lit (.int q v))) := by
      rw [g4, Maps.size_eq, length_sorted]
      simp
    rw [e1, hs]
    exact Nat.le_refl _
  obtain ⟨n', hn', hown⟩ := hb
  refine ⟨_, n', hown, fun x => ?_, fun x => ?_, hs, hn'⟩
  · unfold updO
    by_cases hx : x = k
    · subst hx
      rw [Maps.has_put_same hD hk]
      simp
    · rw [Maps.has_put_other (by intro e; injection e with _ e; exact hx e), h1]
      simp [hx]
  · unfold updO
    by_cases hx : x = k
    · subst hx
      rw [Maps.atKey_put_same hD hk]
      simp
    · rw [Maps.atKey_put_other (by intro e; injection e with _ e; exact hx e), h2]
      simp [hx]

theorem OMap.alloc (h : OMap P K E q w b f sz) (o : Obj) : OMap P K E q (w.alloc o) b f sz := h.mod ((Mod.refl [] w).alloc o) (by simp)
theorem OMap.drew (h : OMap P K E q w b f sz) : OMap P K E q w.drew b f sz := h

theorem OMap.run_look (hown : OMap P K E q w b f sz) (t : TypeId) (hK : P.underlying K = some (.int .i64)) (ht : P.underlying t = some (.map K E)) (he : P.underlying E = some (.int q))
    (hz : ∀ w, (zeroValue E).run P w = .ok (.int q 0) w) (k c : Int) (hwf : (Lit.int .i64 k).wf = true) (hc : (f k).getD 0 = c) : (Instr.lookup t (.map (some b)) (.int .i64 k) false).run P w = .ok (.int q c) w := by
  obtain ⟨D, n, h1, h2, h3, h4, h5⟩ := hown
  obtain ⟨c', hrun, hc', _⟩ := h1.lookup_int (int_keyed hK) ht he (hz w) (Maps.keyOf_int_mk hK hwf)
  rw [h3 k, hc] at hc'
  injection hc' with hc'
  injection hc' with _ hc'
  rw [hrun, ← hc']

theorem OMap.run_put (hown : OMap P K E q w b f sz) (t : TypeId) (hK : P.underlying K = some (.int .i64)) (ht : P.underlying t = some (.map K E)) (he : P.underlying E = some (.int q)) (hsz : sz < maxLen) (k u : Int) (hwf : (Lit.int .i64 k).wf = true) (hwu : (Lit.int q u).wf = true) :
    ∃ w', (Instr.mapUpdate t (.map (some b)) (.int .i64 k) (.int q u)).run P w = .ok () w' ∧ OMap P K E q w' b (updO f k u) (sizeO f k sz) ∧ w.grownBy w' (some b) := by
  obtain ⟨D, n, h1, h2, h3, h4, h5⟩ := hown
  obtain ⟨w', hrun, r1, r2⟩ := h1.update (int_keyed hK) ht (by omega) (Maps.keyOf_int_mk hK hwf) (plainElem_int he hwu)
  exact ⟨w', hrun, OMap.upd n r1 h1 (int_keyed hK) h2 h3 h4 h5, r2⟩

variable {ops : Array Oper} {rest : List Oper} {o : Oper} {a : Act} {Q : Exit → Act → World → Prop}

theorem wpList_omap_look (hg : o.guard = none) (m x : Operand) (t : TypeId) (hop : o.op = Op.lookup t m x false) (hK : P.underlying K = some (.int .i64)) (ht : P.underlying t = some (.map K E)) (he : P.underlying E = some (.int q))
    (hz : ∀ w, (zeroValue E).run P w = .ok (.int q 0) w) (f : Int → Option Int) (sz : Nat) (hm : a.eval m = .map (some b)) (hown : OMap P K E q w b f sz) (k c : Int) (hx : a.eval x = .int .i64 k) (hwf : (Lit.int .i64 k).wf = true) (hc : (f k).getD 0 = c)
    (hN : wpList P ops Q rest (a.put o.dst (.int q c)) w) : wpList P ops Q (o :: rest) a w := by
  obtain ⟨D, n, h1, h2, h3, h4, h5⟩ := hown
  refine wpList_lookup_own_int w hg m x t hop K E q (int_keyed hK) ht he (hz w) b n D hm h1 _ (.int .i64 k) hx (Maps.keyOf_int_mk hK hwf) fun c' hc' _ => ?_
  rw [h3 k, hc] at hc'
  injection hc' with hc'
  injection hc' with _ hc'
  rw [← hc']
  exact hN

theorem wpList_omap_ok (hg : o.guard = none) (m x : Operand) (t : TypeId) (hop : o.op = Op.lookup t m x true) (hK : P.underlying K = some (.int .i64)) (ht : P.underlying t = some (.map K E)) (he : P.underlying E = some (.int q))
    (hz : ∀ w, (zeroValue E).run P w = .ok (.int q 0) w) (f : Int → Option Int) (sz : Nat) (hm : a.eval m = .map (some b)) (hown : OMap P K E q w b f sz) (k c : Int) (d : Bool) (hx : a.eval x = .int .i64 k) (hwf : (Lit.int .i64 k).wf = true) (hc : (f k).getD 0 = c) (hd : (f k).isSome = d)
    (hN : wpList P ops Q rest (a.put o.dst (.tuple #[.int q c, .bool d])) w) : wpList P ops Q (o :: rest) a w := by
  obtain ⟨D, n, h1, h2, h3, h4, h5⟩ := hown
  refine wpList_lookup_own_ok_int w hg m x t hop K E q (int_keyed hK) ht he (hz w) b n D hm h1 _ (.int .i64 k) hx (Maps.keyOf_int_mk hK hwf) fun c' hc' _ => ?_
  rw [h3 k, hc] at hc'
  injection hc' with hc'
  injection hc' with _ hc'
  rw [← hc', h2 k, hd]
  exact hN

theorem wpList_omap_put (hg : o.guard = none) (m x v : Operand) (t : TypeId) (hop : o.op = Op.mapUpdate t m x v) (hK : P.underlying K = some (.int .i64)) (ht : P.underlying t = some (.map K E)) (he : P.underlying E = some (.int q))
    (f : Int → Option Int) (sz : Nat) (hm : a.eval m = .map (some b)) (hown : OMap P K E q w b f sz) (hsz : sz < maxLen) (k u : Int) (hx : a.eval x = .int .i64 k) (hv : a.eval v = .int q u) (hwf : (Lit.int .i64 k).wf = true) (hwu : (Lit.int q u).wf = true)
    (hN : ∀ w', OMap P K E q w' b (updO f k u) (sizeO f k sz) → w.grownBy w' (some b) → wpList P ops Q rest (a.put o.dst undef) w') : wpList P ops Q (o :: rest) a w := by
  obtain ⟨D, n, h1, h2, h3, h4, h5⟩ := hown
  refine wpList_mapUpdate_own w hg m x v t hop K E (int_keyed hK) ht (plainElem P E) b n D hm h1 (by omega) _ _ (.int .i64 k) hx hv (Maps.keyOf_int_mk hK hwf) (.lit (.int q u)) [] (plainElem_int he hwu) fun w' hown' hgr => ?_
  exact hN w' (OMap.upd n hown' h1 (int_keyed hK) h2 h3 h4 h5) hgr

theorem wpList_omap_len (hg : o.guard = none) (m : Operand) (t : TypeId) (hop : o.op = Op.call { callee := Callee.builtin Builtin.len, args := #[m], argTypes := #[t] }) (ht : P.underlying t = some (.map K E))
    (f : Int → Option Int) (sz : Nat) (hm : a.eval m = .map (some b)) (hown : OMap P K E q w b f sz)
    (hN : wpList P ops Q rest (a.put o.dst (.int .i64 (sz : Int))) w) : wpList P ops Q (o :: rest) a w := by
  obtain ⟨D, n, h1, h2, h3, h4, h5⟩ := hown
  refine wpList_len_own w hg m t hop K E ht (plainElem P E) b n D hm h1 ?_
  rw [h4]
  exact hN
end

end Go.Proofs.YtaaaiggbnkeblaaGreatDoor

namespace Go.Proofs.YtaaaiggbnkeblaaGreatDoor
set_option linter.unusedSimpArgs false
set_option linter.unusedVariables false
open Go.RowKit

/-- A Clerk at block d, whose map is block m. -/
def ClerkAt (w : World) (d m : Nat) (nx : Int) (f : Int → Option Int) (sz : Nat) : Prop :=
  w.cell? ⟨d, 0, none⟩ = some (.int .u64 nx) ∧ w.cell? ⟨d, 1, none⟩ = some (.map (some m)) ∧ w.frozen? ⟨d, 0, none⟩ = false ∧ d ≠ m ∧ OMap Tryz.prog 3 23 .u64 w m f sz ∧ 0 ≤ nx ∧ nx ≤ 18446744073709551615

theorem ClerkAt.mod {w w' : World} {d m sz : Nat} {nx : Int} {f : Int → Option Int} {S : List Nat} (h : ClerkAt w d m nx f sz) (hm : Mod S w w') (hd : d ∉ S) (hs : m ∉ S) : ClerkAt w' d m nx f sz := by
  obtain ⟨h1, h2, h3, h4, h5, h6⟩ := h
  have hlt : d < w.heap.size := by
    unfold World.cell? at h1
    rcases Nat.lt_or_ge d w.heap.size with h | h
    · exact h
    · rw [Array.getElem?_eq_none h] at h1
      cases h1
  exact ⟨(hm.cell hlt hd).trans h1, (hm.cell hlt hd).trans h2, (hm.frozen hlt hd).trans h3, h4, h5.mod hm hs, h6⟩

theorem Tryz.zero_u64 (w : World) : (zeroValue 23).run Tryz.prog w = .ok (.int .u64 0) w := by kernel_rfl

def NewClerkPost (w : World) (nx : Int) (f : Int → Option Int) (e : Ending) (w' : World) : Prop :=
  ∃ d m sz, e = .returned (.pointer (some ⟨d, 0, none⟩)) ∧ w.heap.size ≤ d ∧ w.heap.size ≤ m ∧ sz ≤ 64 ∧ ClerkAt w' d m (max 1 nx) f sz ∧ Mod [] w w'

theorem next_nilMap (W : World) (n : Nat) (ty : TypeId) (h : n = W.heap.size) :
    (Instr.next (.pointer (some ⟨n, 0, none⟩)) false ty).run Tryz.prog (W.alloc (.mapIter none 0 #[] 0)) = .ok (.tuple #[.bool false]) (W.alloc (.mapIter none 0 #[] 0)) := by
  subst h
  exact run_next_nilMap (P := Tryz.prog) W ty 0 0 #[]

theorem newclerk_end {w : World} {nx v : Int} {o : Obj} (hv : v = max 1 nx) (h0 : 0 ≤ nx) (h1 : nx ≤ 18446744073709551615) :
    NewClerkPost w nx (fun _ => none) (.returned (.pointer (some ⟨w.heap.size + 1, 0, none⟩))) (((w.alloc (.map #[] 0)).alloc (.cells #[.int .u64 v, .map (some w.heap.size)] 315)).alloc o) := by
  refine ⟨w.heap.size + 1, w.heap.size, 0, rfl, by omega, by omega, by omega, ?_, (((Mod.refl _ _).alloc _).alloc _).alloc _⟩
  refine ClerkAt.mod (S := []) (w := (w.alloc (.map #[] 0)).alloc (.cells #[.int .u64 v, .map (some w.heap.size)] 315)) ?_ ((Mod.refl _ _).alloc _) (by simp) (by simp)
  subst hv
  refine ⟨?_, ?_, ?_, by omega, (OMap.made Tryz.prog 3 23 .u64 w).mod ((Mod.refl [] _).alloc _) (by simp), by omega, by omega⟩
  · exact cell_in (heap_top _ _ _) rfl
  · exact cell_in (heap_top _ _ _) rfl
  · exact free_in (heap_top _ _ _)

set_option maxHeartbeats 1000000 in
theorem newclerk_nil (nx : Int) (w : World) (h0 : 0 ≤ nx) (h1 : nx ≤ 18446744073709551615) :
    Calls Tryz.prog 158 #[.int .u64 nx, .map none] w (NewClerkPost w nx (fun _ => none)) := by
  have H1 := Lib.hid h1
  clear h1
  have hmm := @run_makeMap Tryz.prog
  have hr := fun W => run_range_nilMap (P := Tryz.prog) W 231 3 23 Tryz.underlying231
  have hn := next_nilMap
  by_cases hx : 1 ≤ nx
  · go_enter Tryz.func158, Tryz.ntmps158
    go_wp2_with fail
    all_goals
      refine wp_loop_rounds 1 ?_
      rw [rounds_succ]
      go_wp2
      go_ret
      exact newclerk_end (by omega) h0 H1.out
  · go_enter Tryz.func158, Tryz.ntmps158
    go_wp2_with fail
    all_goals
      refine wp_loop_rounds 1 ?_
      rw [rounds_succ]
      go_wp2
      go_ret
      exact newclerk_end (by omega) h0 H1.out

/-- 'm is a node'. -/
def isNode (n : Int) : Bool := decide (0 ≤ n ∧ n < 64)

set_option maxHeartbeats 400000 in
theorem onode_any (n : Int) (w : World) : Calls Tryz.prog 154 #[.int .i64 n] w fun e w' => e = .returned (.bool (isNode n)) ∧ w = w' := by
  by_cases h0 : 0 ≤ n
  · by_cases h1 : n < 64
    · have hb : isNode n = true := by simp [isNode, h0, h1]
      have HB := Lib.hid hb
      clear hb
      go_enter Tryz.func154, Tryz.ntmps154
      go_wp2
      go_ret
      exact ⟨by rw [HB.out]; rfl, rfl⟩
    · have hb : isNode n = false := by simp [isNode]; omega
      have HB := Lib.hid hb
      clear hb
      go_enter Tryz.func154, Tryz.ntmps154
      go_wp2
      go_ret
      exact ⟨by rw [HB.out]; rfl, rfl⟩
  · have hb : isNode n = false := by simp [isNode]; omega
    have HB := Lib.hid hb
    clear hb
    go_enter Tryz.func154, Tryz.ntmps154
    go_wp2
    go_ret
    exact ⟨by rw [HB.out]; rfl, rfl⟩

theorem onode_is (n : Int) (b : Bool) (w : World) (h : isNode n = b) : Calls Tryz.prog 154 #[.int .i64 n] w fun e w' => e = .returned (.bool b) ∧ w = w' := h ▸ onode_any n w

/-- What Number answers: its error, 0 if none. -/
def numErr (nx : Int) (f : Int → Option Int) (s n : Int) : Int :=
  if isNode s = false ∨ n = 0 then 1 else if n ≤ (f s).getD 0 then 4 else if n ≠ (f s).getD 0 + 1 then 120 else if nx = 18446744073709551615 then 60 else 0

/-- Number's end. -/
def NumPost (w : World) (d m sz : Nat) (nx : Int) (f : Int → Option Int) (s n : Int) (e : Ending) (w' : World) : Prop :=
  e = .returned (.tuple #[.int .u64 (if numErr nx f s n = 0 then nx else 0), .int .i64 (numErr nx f s n)]) ∧ Mod [d, m] w w' ∧
    ∃ sz', sz' ≤ sz + 1 ∧ ClerkAt w' d m (if numErr nx f s n = 0 then nx + 1 else nx) (if numErr nx f s n = 0 then updO f s n else f) sz'

theorem num_same {w w' : World} {d m sz : Nat} {nx : Int} {f : Int → Option Int} {s n er : Int} (h : ClerkAt w d m nx f sz) (he : numErr nx f s n = er) (h0 : er ≠ 0) (hm : Mod [] w w') :
    NumPost w d m sz nx f s n (.returned (.tuple #[.int .u64 0, .int .i64 er])) w' := by
  subst he
  refine ⟨by rw [if_neg h0], hm.mono (by simp), sz, by omega, ?_⟩
  rw [if_neg h0, if_neg h0]
  exact h.mod hm (by simp) (by simp)

set_option maxRecDepth 100000 in
set_option maxHeartbeats 4000000 in
theorem number_any (d m sz : Nat) (nx : Int) (f : Int → Option Int) (s n : Int) (t : ByteArray) (w : World) (h : ClerkAt w d m nx f sz) (hsz : sz < 1000000) (hs : (Lit.int .i64 s).wf = true) (n0 : 0 ≤ n) (n1 : n ≤ 18446744073709551615) (hf : 0 ≤ (f s).getD 0) :
    Calls Tryz.prog 270 #[.pointer (some ⟨d, 0, none⟩), .agg #[.int .i64 s, .int .u64 n, .string t]] w (NumPost w d m sz nx f s n) := by
  have H := Lib.hid h
  obtain ⟨h1, h2, h3, h4, h5, h6, h7⟩ := h
  have hdm : d < w.heap.size ∧ m < w.heap.size := by
    refine ⟨?_, h5.lt⟩
    unfold World.cell? at h1
    rcases Nat.lt_or_ge d w.heap.size with h | h
    · exact h
    · rw [Array.getElem?_eq_none h] at h1
      cases h1
  obtain ⟨hdl, hml⟩ := hdm
  obtain ⟨c, hc⟩ : ∃ c, (f s).getD 0 = c := ⟨_, rfl⟩
  rw [hc] at hf
  have hlook := (((h5.alloc (.cells #[.int .i64 s, .int .u64 n, .string t] 156)).drew)).run_look 231 Tryz.underlying3 Tryz.underlying231 Tryz.underlying23 Tryz.zero_u64 s c hs hc
  have HC := Lib.hid hc
  have H5 := Lib.hid h5
  have HS := Lib.hid hs
  have H7 := Lib.hid h7
  have N1 := Lib.hid n1
  clear hc h5 hs h7 n1
  cases hb : isNode s with
  | false =>
    have he : numErr nx f s n = 1 := by unfold numErr; rw [if_pos (.inl hb)]
    have HE := Lib.hid he
    have HB := Lib.hid hb
    clear he hb
    go_enter Tryz.func270, Tryz.ntmps270
    go_wp2_with fail
    go_region
    go_wp2_with (go_at_call 154; refine (onode_is s false _ HB.out).mono ?_; rintro e w1 ⟨rfl, rfl⟩)
    go_ret2
    exact num_same H.out HE.out (by decide) ((Mod.refl _ _).alloc _).drew
  | true =>
    have HB := Lib.hid hb
    by_cases hn0 : n = 0
    · have he : numErr nx f s n = 1 := by unfold numErr; rw [if_pos (.inr hn0)]
      have HE := Lib.hid he
      have hz : (n == 0) = true := by simpa using hn0
      clear he hb hn0
      go_enter Tryz.func270, Tryz.ntmps270
      go_wp2_with fail
      go_region
      go_wp2_with (go_at_call 154; refine (onode_is s true _ HB.out).mono ?_; rintro e w1 ⟨rfl, rfl⟩)
      go_ret2
      exact num_same H.out HE.out (by decide) ((Mod.refl _ _).alloc _).drew
    have hz : (n == 0) = false := by simpa using hn0
    have hp : 0 < n := by omega
    by_cases hle : n ≤ c
    · have he : numErr nx f s n = 4 := by unfold numErr; rw [if_neg (by simp [hb, hn0]), HC.out, if_pos hle]
      have HE := Lib.hid he
      clear he hb hn0
      go_enter Tryz.func270, Tryz.ntmps270
      go_wp2_with fail
      go_region
      go_wp2_with (go_at_call 154; refine (onode_is s true _ HB.out).mono ?_; rintro e w1 ⟨rfl, rfl⟩)
      go_ret2
      exact num_same H.out HE.out (by decide) ((Mod.refl _ _).alloc _).drew
    have hc1 : c + 1 ≤ 18446744073709551615 := by have := N1.out; omega
    have hcw : (c + 1) % 18446744073709551616 = c + 1 := by omega
    by_cases hne : n = c + 1
    · by_cases hnx : nx = 18446744073709551615
      · have he : numErr nx f s n = 60 := by unfold numErr; rw [if_neg (by simp [hb, hn0]), HC.out, if_neg hle, if_neg (by omega), if_pos hnx]
        have HE := Lib.hid he
        have hnq : (n != c + 1) = false := by simpa using hne
        have hnm : (nx == 18446744073709551615) = true := by simpa using hnx
        clear he hb hn0 hnx hne
        go_enter Tryz.func270, Tryz.ntmps270
        go_wp2_with fail
        go_region
        go_wp2_with (go_at_call 154; refine (onode_is s true _ HB.out).mono ?_; rintro e w1 ⟨rfl, rfl⟩)
        go_ret2
        exact num_same H.out HE.out (by decide) ((Mod.refl _ _).alloc _).drew
      · have he : numErr nx f s n = 0 := by unfold numErr; rw [if_neg (by simp [hb, hn0]), HC.out, if_neg hle, if_neg (by omega), if_neg hnx]
        have hN7 : (Lit.int .u64 n).wf = true := WalkArith.wf_u64 ⟨n0, N1.out⟩
        obtain ⟨w3, hput, hO3, hgr⟩ := (((H5.out.alloc (.cells #[.int .i64 s, .int .u64 n, .string t] 156)).drew).drew).run_put 231 Tryz.underlying3 Tryz.underlying231 Tryz.underlying23 (by simp [maxLen]; omega) s n HS.out hN7
        have hmod : Mod [m] w w3 := ((((Mod.refl [m] w).alloc (.cells #[.int .i64 s, .int .u64 n, .string t] 156)).drew).drew).grown hgr (.inl (by simp))
        have hk0 : w3.cell? ⟨d, 0, none⟩ = some (.int .u64 nx) := (hmod.cell hdl (by simpa using h4)).trans h1
        have hk1 : w3.cell? ⟨d, 1, none⟩ = some (.map (some m)) := (hmod.cell hdl (by simpa using h4)).trans h2
        have hf0 : w3.frozen? ⟨d, 0, none⟩ = false := (hmod.frozen hdl (by simpa using h4)).trans h3
        have h70 := H7.out
        have hx1 : (nx + 1) % 18446744073709551616 = nx + 1 := by omega
        have hx2 : (nx + 1 - 1) % 18446744073709551616 = nx := by omega
        have hs3 := cell_set_same (v := .int .u64 (nx + 1)) hk0
        have hnq : (n != c + 1) = false := by simpa using hne
        have hnm : (nx == 18446744073709551615) = false := by simpa using hnx
        have fin : NumPost w d m sz nx f s n (.returned (.tuple #[.int .u64 nx, .int .i64 0])) (w3.setCell ⟨d, 0, none⟩ (.int .u64 (nx + 1))) := by
          refine ⟨by rw [he]; rfl, (hmod.mono (fun k _ hk => by simp at hk; simp [hk])).setCell (.inl (by simp)) _, sizeO f s sz, by unfold sizeO; split <;> omega, ?_⟩
          rw [he]
          refine ⟨hs3, ?_, ?_, h4, hO3.mod (S := [d]) ((Mod.refl _ _).setCell (.inl (by simp)) _) (by simp; omega), by simp; omega, by simp; omega⟩
          · rw [cell_set_off _ _ _ _ (by simp)]
            exact hk1
          · rw [World.frozen?_setCell]
            exact hf0
        have FIN := Lib.hid fin
        have HGR := Lib.hid hgr
        have HMOD := Lib.hid hmod
        clear he hb hn0 hnx fin hgr hO3 hmod hne
        go_enter Tryz.func270, Tryz.ntmps270
        go_wp2_with fail
        go_region
        go_wp2_with (go_at_call 154; refine (onode_is s true _ HB.out).mono ?_; rintro e w1 ⟨rfl, rfl⟩)
        go_region
        go_wp2_with fail
        go_ret2
        exact FIN.out
    · have he : numErr nx f s n = 120 := by unfold numErr; rw [if_neg (by simp [hb, hn0]), HC.out, if_neg hle, if_pos hne]
      have HE := Lib.hid he
      have hnq : (n != c + 1) = true := by simpa using hne
      clear he hb hn0
      go_enter Tryz.func270, Tryz.ntmps270
      go_wp2_with fail
      go_region
      go_wp2_with (go_at_call 154; refine (onode_is s true _ HB.out).mono ?_; rintro e w1 ⟨rfl, rfl⟩)
      go_ret2
      exact num_same H.out HE.out (by decide) ((Mod.refl _ _).alloc _).drew

end Go.Proofs.YtaaaiggbnkeblaaGreatDoor

namespace Go.Proofs.YtaaaiggbnkeblaaGreatDoor
set_option linter.unusedSimpArgs false
set_option linter.unusedVariables false
open Go.RowKit
open Go.Maps (Keyed int_keyed)

def cutNode (g : Int → Option Int) : Int → Option Int := fun x => if isNode x = true then g x else none

def NewClerkPostM (w : World) (nx : Int) (s : Nat) (f : Int → Option Int) (e : Ending) (w' : World) : Prop :=
  ∃ d m sz, e = .returned (.pointer (some ⟨d, 0, none⟩)) ∧ w.heap.size ≤ d ∧ w.heap.size ≤ m ∧ sz ≤ s ∧ ClerkAt w' d m (max 1 nx) f sz ∧ Mod [] w w'

/-- Of the map g, those entries whose node has come. -/
def Come (g : Int → Option Int) (left : Lit → Bool) (f : Int → Option Int) : Prop := ∀ x, f x = if isNode x = true ∧ left (.int .i64 x) = false then g x else none

theorem come_start {g : Int → Option Int} {left : Lit → Bool} (h : ∀ x, left (.int .i64 x) = (g x).isSome) : Come g left (fun _ => none) := fun x => by
  show none = _
  by_cases hx : isNode x = true ∧ left (.int .i64 x) = false
  · rw [if_pos hx]
    have := (h x).symm.trans hx.2
    cases e : g x with
    | none => rfl
    | some v => rw [e] at this; cases this
  · rw [if_neg hx]
theorem come_end {g : Int → Option Int} {left : Lit → Bool} {f : Int → Option Int} (h : Come g left f) (hl : ∀ k, left k = false) : f = cutNode g := by
  funext x
  rw [h x]
  unfold cutNode
  by_cases hx : isNode x = true
  · rw [if_pos ⟨hx, hl _⟩, if_pos hx]
  · rw [if_neg (fun e => hx e.1), if_neg hx]
theorem same_int (x y : Int) : (Lit.int .i64 y).sameKey (.int .i64 x) = decide (y = x) := by
  by_cases h : y = x
  · subst h; simp [Lit.sameKey]
  · simp [Lit.sameKey, h]
theorem come_put {g : Int → Option Int} {left : Lit → Bool} {f : Int → Option Int} {x c : Int} (h : Come g left f) (hn : isNode x = true) (hg : g x = some c) : Come g (fun z => left z && !z.sameKey (.int .i64 x)) (updO f x c) := fun y => by
  unfold updO
  by_cases e : y = x
  · subst e
    rw [if_pos rfl, if_pos ⟨hn, by simp [same_int]⟩, hg]
  · rw [if_neg e, h y]
    simp [same_int, e]
theorem come_skip {g : Int → Option Int} {left : Lit → Bool} {f : Int → Option Int} {x : Int} (h : Come g left f) (hn : isNode x = false) : Come g (fun z => left z && !z.sameKey (.int .i64 x)) f := fun y => by
  rw [h y]
  by_cases e : y = x
  · subst e
    simp [hn]
  · simp [same_int, e]

structure NcInv (w : World) (b r n szg : Nat) (D : DataW Unit) (nx : Int) (g : Int → Option Int) (left : Lit → Bool) (cnt : Nat) (wr : World) (f : Int → Option Int) (sz : Nat) : Prop where
  rg : wr.ranges Tryz.prog 3 (plainElem Tryz.prog 23) b r n D left cnt
  clerk : ClerkAt wr (w.heap.size + 1) w.heap.size (max 1 nx) f sz
  sz : sz + cnt ≤ szg
  come : Come g left f
  has : ∀ x, left (.int .i64 x) = true → (g x).isSome = true
  mod : Mod [] w wr
  big : r < wr.heap.size

theorem nc_start (w : World) (b r n : Nat) (D : DataW Unit) (nx : Int) (g : Int → Option Int) (w0 : World) (h0 : 0 ≤ nx) (h1 : nx ≤ 18446744073709551615) (hh : ∀ k, Maps.has D (.int .i64 k) = (g k).isSome) (hs : Maps.size D = n)
    (hrg0 : w0.ranges Tryz.prog 3 (plainElem Tryz.prog 23) b r n D (Maps.has D) (Maps.size D)) (hg0 : ((w.alloc (.map #[] 0)).alloc (.cells #[.int .u64 (if 1 < nx then nx else 1), .map (some w.heap.size)] 315)).grownBy w0 none) (hs0 : w0.heap.size = r + 1) :
    NcInv w b r n n D nx g (Maps.has D) (Maps.size D) w0 (fun _ => none) 0 := by
  have hm0 : Mod [] ((w.alloc (.map #[] 0)).alloc (.cells #[.int .u64 (if 1 < nx then nx else 1), .map (some w.heap.size)] 315)) w0 := ⟨hg0.os, hg0.tape, hg0.output, hg0.size, fun k hk _ => hg0.block k hk (by simp)⟩
  have hv : (if 1 < nx then nx else 1) = max 1 nx := by split <;> omega
  refine ⟨hrg0, ?_, by omega, come_start hh, fun x hx => by rw [← hh x]; exact hx, ((((Mod.refl [] w).alloc _).alloc _).trans hm0), by omega⟩
  refine ClerkAt.mod (S := []) ?_ hm0 (by simp) (by simp)
  rw [hv]
  refine ⟨?_, ?_, ?_, by omega, (OMap.made Tryz.prog 3 23 .u64 w).mod ((Mod.refl [] _).alloc _) (by simp), by omega, by omega⟩
  · exact cell_in (heap_top _ _ _) rfl
  · exact cell_in (heap_top _ _ _) rfl
  · exact free_in (heap_top _ _ _)

set_option maxRecDepth 100000 in
set_option maxHeartbeats 4000000 in
theorem newclerk_map (nx : Int) (b szg : Nat) (g : Int → Option Int) (w : World) (h0 : 0 ≤ nx) (h1 : nx ≤ 18446744073709551615) (hg : OMap Tryz.prog 3 23 .u64 w b g szg) (hs : szg ≤ 1000000) :
    Calls Tryz.prog 158 #[.int .u64 nx, .map (some b)] w (NewClerkPostM w nx szg (cutNode g)) := by
  obtain ⟨D, n, hown, hhas, hat, hsize, rfl⟩ := hg
  have hmm := @run_makeMap Tryz.prog
  have hbl := hown.lt
  have H1 := Lib.hid h1
  have HH := Lib.hid hhas
  have HA := Lib.hid hat
  have HS := Lib.hid hsize
  clear h1 hhas hat hsize
  go_enter Tryz.func158, Tryz.ntmps158
  go_wp2_with (first
    | (at_range; refine wpList_range_own _ rfl _ 231 rfl 3 23 (int_keyed Tryz.underlying3) Tryz.underlying231 _ b _ _ rfl ((hown.alloc _).alloc _) ?_; intro w0 hrg0 hg0 hs0))
  all_goals try go_frame
  all_goals
    have e1 : ((w.alloc (.map #[] 0)).alloc (.cells #[.int .u64 (if 1 < nx then nx else 1), .map (some w.heap.size)] 315)).heap.size = w.heap.size + 1 + 1 := by simp
    rw [e1] at hrg0 hs0
    have hst := nc_start w b (w.heap.size + 1 + 1) n D nx g w0 h0 H1.out HH.out HS.out hrg0 hg0 hs0
    have HST := Lib.hid hst
    clear hst hrg0 hg0 hs0 hmm hown
    go_loopw [6] (fun _ wr => ∃ left cnt f sz, NcInv w b (w.heap.size + 1 + 1) n n D nx g left cnt wr f sz) (fun _ wr => wr.rangeLeft b (w.heap.size + 1 + 1))
    case atStart => exact ⟨_, _, _, _, HST.out⟩
    case round =>
      obtain ⟨left, cnt, f, sz, hinv⟩ := hrel
      have HI := Lib.hid hinv
      have hrg := hinv.rg
      clear hinv
      go_wp2_with (first
        | (at_next; refine wpList_next_ranges_ii _ rfl _ rfl 3 23 .i64 .u64 (int_keyed Tryz.underlying3) Tryz.underlying3 Tryz.underlying23 b (w.heap.size + 1 + 1) n _ _ _ rfl hrg ?_ ?_))
      · intro hc0 hl0
        go_wp2_with fail
        go_ret
        exact ⟨w.heap.size + 1, w.heap.size, sz, rfl, by omega, by omega, by have := HI.out.sz; omega, by rw [← come_end HI.out.come hl0]; exact HI.out.clerk, HI.out.mod⟩
      · intro x c w1 cnt1 hwx hwc hlx hat hrg1 hlt hg1 hs1 hen
        have hgx : g x = some c := by
          have h1 := HI.out.has x hlx
          have h2 := (hat (.lit (.int .u64 0))).symm.trans (HA.out x)
          cases hgv : g x with
          | none => rw [hgv] at h1; cases h1
          | some v =>
            rw [hgv] at h2
            injection h2 with h2
            injection h2 with _ h2
            rw [h2]
            rfl
        have hm1 : Mod [w.heap.size + 1 + 1] wr w1 := (Mod.refl _ _).grown hg1 (.inl (by simp))
        have hc1 := HI.out.clerk.mod hm1 (by simp) (by simp; omega)
        have hk1 := hc1.2.1
        have hmm1 := HI.out.mod.step hm1 (by simp; omega)
        have HX := Lib.hid (And.intro hwx hwc)
        have HL := Lib.hid hlt
        have HC1 := Lib.hid hc1
        have HOM := Lib.hid (show OMap Tryz.prog 3 23 .u64 w1 w.heap.size f sz from hc1.2.2.2.2.1)
        have HRG1 := Lib.hid hrg1
        have HGX := Lib.hid hgx
        have HMM1 := Lib.hid hmm1
        have HS1 := Lib.hid hs1
        have HLE := Lib.hid hrg.left_eq
        clear hwx hwc hlx hat hrg1 hlt hg1 hs1 hgx hm1 hc1 hmm1 hrg
        cases hb : isNode x with
        | false =>
          have HB := Lib.hid hb
          clear hb
          go_wp2_with (first | (go_at_call 154; refine (onode_is x false _ HB.out).mono ?_; rintro e w2 ⟨rfl, rfl⟩))
          go_roundw
          case rel => exact ⟨_, cnt1, f, sz, HRG1.out, HC1.out, by have := HI.out.sz; have := HL.out; omega, come_skip HI.out.come HB.out, fun y hy => HI.out.has y (by simp at hy; exact hy.1), HMM1.out, by have := HI.out.big; have := HS1.out; omega⟩
          case measure => rw [HRG1.out.left_eq, HLE.out]; exact HL.out
        | true =>
          have HB := Lib.hid hb
          clear hb
          go_wp2_with (first | (go_at_call 154; refine (onode_is x true _ HB.out).mono ?_; rintro e w2 ⟨rfl, rfl⟩) | (at_mapUpdate; (with_reducible refine wpList_omap_put (b := w.heap.size) rfl (.tmp 25) (.tmp 26) (.tmp 27) 231 rfl Tryz.underlying3 Tryz.underlying231 Tryz.underlying23 f sz rfl HOM.out ?o1 x c rfl rfl HX.out.1 HX.out.2 ?o2)))
          case o1 => have := HI.out.sz; unfold maxLen; omega
          case o2 =>
            intro w2 hmap hgr
            try go_frame
            have hrg2 := HRG1.out.kept hgr (fun e => by have := Option.some.inj e; omega) (fun e => by have := Option.some.inj e; omega)
            have hm2 : Mod [w.heap.size] w1 w2 := (Mod.refl _ _).grown hgr (.inl (by simp))
            have HRG2 := Lib.hid hrg2
            have HM2 := Lib.hid hm2
            have HMAP := Lib.hid hmap
            clear hmap hgr hrg2 hm2
            try go_wp2_with fail
            go_roundw
            case rel =>
              refine ⟨_, cnt1, updO f x c, sizeO f x sz, HRG2.out, ?_, ?_, come_put HI.out.come HB.out HGX.out, fun y hy => HI.out.has y (by simp at hy; exact hy.1), HMM1.out.step HM2.out (by simp), by have := HM2.out.size; have := HI.out.big; have := HS1.out; omega⟩
              · have hlt1 := block_lt_of_cell HC1.out.1
                exact ⟨(HM2.out.cell hlt1 (by simp)).trans HC1.out.1, (HM2.out.cell (p := ⟨w.heap.size + 1, 1, none⟩) hlt1 (by simp)).trans HC1.out.2.1, (HM2.out.frozen hlt1 (by simp)).trans HC1.out.2.2.1, HC1.out.2.2.2.1, HMAP.out, HC1.out.2.2.2.2.2⟩
              · have h1 := HI.out.sz
                have h2 := HL.out
                unfold sizeO
                split <;> omega
            case measure => rw [HRG2.out.left_eq, HLE.out]; exact HL.out

end Go.Proofs.YtaaaiggbnkeblaaGreatDoor
