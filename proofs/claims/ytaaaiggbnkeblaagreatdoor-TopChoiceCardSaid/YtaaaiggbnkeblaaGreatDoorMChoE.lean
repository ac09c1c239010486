/-
  Plain facts: the bits of the joins.
  The walk of a turn's to.
  A turn as a record; contracts of its functions.
-/
import Derived.Test.YtaaaiggbnkeblaaGreatDoorMBase
import Derived.Test.YtaaaiggbnkeblaaGreatDoorMChoC
import Derived.Deep.Cut
import Derived.Deep.AppendLies
namespace Go.Proofs.YtaaaiggbnkeblaaGreatDoor
set_option linter.unusedSimpArgs false
set_option linter.unusedVariables false
open Go.RowKit

def bitsList : Nat → Int → Option (List Int)
  | 0, x => if (x == 0) = true then some [] else none
  | f + 1, x => if (x == 0) = true then some [] else
    if bits .and .u64 x (IntKind.u64.wrap (-x)) = 2 ^ (bits .and .u64 x (IntKind.u64.wrap (-x))).toNat.log2 ∧ (bits .and .u64 x (IntKind.u64.wrap (-x))).toNat.log2 < 64 ∧ 0 ≤ bits .and .u64 x (IntKind.u64.wrap (x - 1)) ∧ bits .and .u64 x (IntKind.u64.wrap (x - 1)) < x then
      (bitsList f (bits .and .u64 x (IntKind.u64.wrap (x - 1)))).map (fun l => ((bits .and .u64 x (IntKind.u64.wrap (-x))).toNat.log2 : Int) :: l) else none
theorem bitsList_ok (f : Nat) : ∀ (x : Int) (ks : List Int), bitsList f x = some ks → Bits x ks := by
  induction f with
  | zero =>
    intro x ks h
    unfold bitsList at h
    split at h
    · rename_i h0
      have : x = 0 := by simpa using h0
      subst this
      cases h
      exact .nil
    · cases h
  | succ f ih =>
    intro x ks h
    unfold bitsList at h
    split at h
    · rename_i h0
      have : x = 0 := by simpa using h0
      subst this
      cases h
      exact .nil
    · rename_i h0
      split at h
      · rename_i hc
        rw [Option.map_eq_some_iff] at h
        obtain ⟨l, hl, rfl⟩ := h
        exact .cons (by simpa using h0) hc.1 hc.2.1 rfl hc.2.2.1 hc.2.2.2 (ih _ _ hl)
      · cases h
def joinsOk (j : Nat) : Bool := match bitsList 9 (8 * (j : Int)) with
  | some ks => decide (ks.length ≤ 8) && ks.all (fun x => decide (3 ≤ x) && decide (x < 64)) && (bits .andNot .u64 (8 * (j : Int)) 1 == 8 * (j : Int)) && (bits .andNot .u64 (bits .or .u64 7 (8 * (j : Int))) 7 == 8 * (j : Int))
  | none => false
theorem joinsOk_all : (List.range 256).all joinsOk = true := by kernel_rfl
theorem joins_bits (j : Nat) (h : j < 256) : ∃ ks, Bits (8 * (j : Int)) ks ∧ ks.length ≤ 8 ∧ (∀ x ∈ ks, 3 ≤ x ∧ x < 64) ∧ bits .andNot .u64 (8 * (j : Int)) 1 = 8 * (j : Int) ∧ bits .andNot .u64 (bits .or .u64 7 (8 * (j : Int))) 7 = 8 * (j : Int) := by
  have h1 := List.all_eq_true.1 joinsOk_all j (List.mem_range.2 h)
  unfold joinsOk at h1
  split at h1
  · rename_i ks hk
    simp only [Bool.and_eq_true, decide_eq_true_eq, List.all_eq_true, beq_iff_eq] at h1
    exact ⟨ks, bitsList_ok _ _ _ hk, h1.1.1.1, h1.1.1.2, h1.1.2, h1.2⟩
  · cases h1
theorem bits_six : Bits 6 [1, 2] := .cons (k := 1) (x' := 4) rfl (by decide) (by decide) (by decide) (by decide) (by decide) (.cons (k := 2) (x' := 0) rfl (by decide) (by decide) (by decide) (by decide) (by decide) .nil)
theorem bits_seven : Bits 7 [0, 1, 2] := .cons (k := 0) (x' := 6) rfl (by decide) (by decide) (by decide) (by decide) (by decide) bits_six
end Go.Proofs.YtaaaiggbnkeblaaGreatDoor

namespace Go.Proofs.YtaaaiggbnkeblaaGreatDoor
set_option linter.unusedSimpArgs false
set_option linter.unusedVariables false
open Go.RowKit

/-- What a turn writes into a letter that it sends. -/
def Let.from_ (l : Let) (me : Nat) (id ms : Int) : Let := { l with from' := me, id := id, ms := ms }
def Let.to_ (l : Let) (n : Nat) : Let := { l with to' := n }

def lflat (L : List Let) : List Value := (L.map fun l => l.v.toList).flatten
theorem lflat_snoc (L : List Let) (l : Let) : lflat (L ++ [l]) = lflat L ++ l.v.toList := by simp [lflat]
theorem lflat_append (L M : List Let) : lflat (L ++ M) = lflat L ++ lflat M := by simp [lflat]
theorem lflat_len (L : List Let) : (lflat L).length = L.length * 16 := by
  induction L with
  | nil => rfl
  | cons l L ih =>
    have e : lflat (l :: L) = l.v.toList ++ lflat L := by simp [lflat]
    have h16 : l.v.toList.length = 16 := rfl
    rw [e, List.length_append, ih, List.length_cons, h16]
    omega
theorem lflat_one (L : List Let) : ∀ u ∈ lflat L, u.oneCell' = true := by
  intro u hu
  unfold lflat at hu
  rw [List.mem_flatten] at hu
  obtain ⟨m, hm, h⟩ := hu
  rw [List.mem_map] at hm
  obtain ⟨l, _, rfl⟩ := hm
  simp [Let.v] at h
  rcases h with h | h | h | h | h | h | h | h | h | h | h | h | h | h | h <;> subst h <;> rfl
def letZ : Value := .agg (Let.v ⟨0, 0, 0, 0, 0, 0, 0, 0, 0, 0, 0⟩)
theorem infoLetter : ∃ i, Tryz.prog.info? 42 = some i ∧ i.zero = some letZ ∧ i.size = 16 ∧ i.bytes ≤ 1000 := by
  have h : (Tryz.prog.info? 42).map (fun i => (i.zero, i.size, decide (i.bytes ≤ 1000))) = some (some letZ, 16, true) := by kernel_rfl
  cases hi : Tryz.prog.info? 42 with
  | none => rw [hi] at h; cases h
  | some i =>
    rw [hi] at h
    simp at h
    exact ⟨i, rfl, h.1, h.2.1, h.2.2⟩

/-- The cells of a letter's block, one by one. -/
theorem let_cells {w : World} {p : Nat} {kd fr to' seq id ms bal old nid nms cut : Int} (h : w.heap[p]? = some (.cells #[.int .i64 kd, .int .i64 fr, .int .i64 to', .int .u64 seq, .int .i64 0, .slice none 0 0, .int .u64 id, .int .u64 ms, .int .u64 bal, .int .u64 old, .int .u64 nid, .int .u64 nms, .int .u64 cut, .slice none 0 0, .slice none 0 0, .float .f64 0] 42 (0, 0))) :
    w.cell? ⟨p, 0, none⟩ = some (.int .i64 kd) ∧ w.cell? ⟨p, 1, none⟩ = some (.int .i64 fr) ∧ w.cell? ⟨p, 2, none⟩ = some (.int .i64 to') ∧ w.cell? ⟨p, 3, none⟩ = some (.int .u64 seq) ∧ w.cell? ⟨p, 4, none⟩ = some (.int .i64 0) ∧ w.cell? ⟨p, 5, none⟩ = some (.slice none 0 0) ∧ w.cell? ⟨p, 6, none⟩ = some (.int .u64 id) ∧ w.cell? ⟨p, 7, none⟩ = some (.int .u64 ms) ∧ w.cell? ⟨p, 8, none⟩ = some (.int .u64 bal) ∧ w.cell? ⟨p, 9, none⟩ = some (.int .u64 old) ∧ w.cell? ⟨p, 10, none⟩ = some (.int .u64 nid) ∧ w.cell? ⟨p, 11, none⟩ = some (.int .u64 nms) ∧ w.cell? ⟨p, 12, none⟩ = some (.int .u64 cut) ∧ w.cell? ⟨p, 13, none⟩ = some (.slice none 0 0) ∧ w.cell? ⟨p, 14, none⟩ = some (.slice none 0 0) ∧ w.cell? ⟨p, 15, none⟩ = some (.float .f64 0) :=
  ⟨cell_in h rfl, cell_in h rfl, cell_in h rfl, cell_in h rfl, cell_in h rfl, cell_in h rfl, cell_in h rfl, cell_in h rfl, cell_in h rfl, cell_in h rfl, cell_in h rfl, cell_in h rfl, cell_in h rfl, cell_in h rfl, cell_in h rfl, cell_in h rfl⟩

/-- The loop of to: k of the letters are written. -/
def ToRel (w4 : World) (p : Nat) (ks : List Int) (l : Let) (k : Nat) (v : Value) (wr : World) : Prop :=
  wr.ownsRow w4.heap.size 42 16 v k (lflat ((ks.take k).map fun x => l.to_ x.toNat)) ∧ (∃ x, LetAt wr p (l.to_ x)) ∧ Mod [p] w4 wr ∧ (k = 0 → v = .slice none 0 0)
theorem to_next {w4 wr V w6 : World} {p k : Nat} {ks : List Int} {x : Int} {u6 v6 : Value} {kd me to' : Nat} {seq id ms bal old nid nms cut : Int} {o : Obj} (hpw : p < w4.heap.size)
    (h : ToRel w4 p ks ⟨kd, me, to', seq, id, ms, bal, old, nid, nms, cut⟩ k u6 wr) (hx : ks[k]? = some x) (hx0 : 0 ≤ x) (hV : Mod [p] wr V) (hrow : V.heap[p]? = some (.cells #[.int .i64 kd, .int .i64 me, .int .i64 x, .int .u64 seq, .int .i64 0, .slice none 0 0, .int .u64 id, .int .u64 ms, .int .u64 bal, .int .u64 old, .int .u64 nid, .int .u64 nms, .int .u64 cut, .slice none 0 0, .slice none 0 0, .float .f64 0] 42 (0, 0)))
    (hown : w6.ownsRow w4.heap.size 42 16 v6 (k + 1) (lflat ((ks.take k).map fun x => Let.to_ ⟨kd, me, to', seq, id, ms, bal, old, nid, nms, cut⟩ x.toNat) ++ [.int .i64 kd, .int .i64 me, .int .i64 x, .int .u64 seq, .int .i64 0, .slice none 0 0, .int .u64 id, .int .u64 ms, .int .u64 bal, .int .u64 old, .int .u64 nid, .int .u64 nms, .int .u64 cut, .slice none 0 0, .slice none 0 0, .float .f64 0])) (hgrow : (V.alloc o).grownBy w6 u6.ownBlock) :
    ToRel w4 p ks ⟨kd, me, to', seq, id, ms, bal, old, nid, nms, cut⟩ (k + 1) v6 w6 := by
  have e : ((x.toNat : Nat) : Int) = x := Int.toNat_of_nonneg hx0
  have htk : ks.take (k + 1) = ks.take k ++ [x] := by rw [List.take_add_one, hx]; rfl
  have hge6 := ownsRow_ge h.1
  have hm6 : Mod u6.ownBlock.toList V w6 := Mod.grownOwn ((Mod.refl _ _).alloc _) hgrow
  have hnp : p ∉ u6.ownBlock.toList := fun hb => by
    rw [Option.mem_toList] at hb
    have := (hge6 p hb).1
    omega
  refine ⟨?_, ⟨x.toNat, ?_⟩, (h.2.2.1.trans hV).step hm6 (fun b hb => ?_), fun h0 => by omega⟩
  · rw [htk, List.map_append, List.map_cons, List.map_nil, lflat_snoc]
    simp only [Let.to_, Let.v, e]
    exact hown
  · have h1 := row_mod hm6 hrow hnp
    unfold LetAt
    simp only [Let.to_, Let.v, e]
    exact h1
  · rw [Option.mem_toList] at hb
    exact .inr (hge6 b hb).1

/-- Letters in a row of the call's own, from block B on. -/
def Lets (w : World) (B : Nat) (v : Value) (L : List Let) : Prop := w.ownsRow B 42 16 v L.length (lflat L)
def ToPost (w : World) (L : List Let) (e : Ending) (w' : World) : Prop := ∃ v, e = .returned v ∧ Lets w' w.heap.size v L ∧ (L = [] → v = .slice none 0 0) ∧ Mod [] w w'
theorem to_done {w w4 wr : World} {p n : Nat} {ks : List Int} {l : Let} {v : Value} (hn : ks.length = n) (h : ToRel w4 p ks l n v wr) (hM : Mod [] w w4) (hp : w.heap.size ≤ p) : Lets wr w.heap.size v (ks.map fun x => l.to_ x.toNat) ∧ ((ks.map fun x => l.to_ x.toNat) = [] → v = .slice none 0 0) ∧ Mod [] w wr := by
  obtain ⟨hown, _, hm, hz⟩ := h
  have e : ks.take n = ks := by rw [← hn, List.take_length]
  rw [e] at hown
  refine ⟨?_, fun h0 => ?_, hM.step hm (fun x hx => .inr (by simp at hx; omega))⟩
  · unfold Lets
    rw [List.length_map, hn]
    obtain ⟨hl, h⟩ := hown
    refine ⟨hl, ?_⟩
    rcases h with ⟨rfl, h0⟩ | ⟨g, cap, cur, rfl, hB, hg, h1, h2, h3, h4⟩
    · exact .inl ⟨rfl, h0⟩
    · exact .inr ⟨g, cap, cur, rfl, Nat.le_trans hM.size hB, hg, h1, h2, h3, h4⟩
  · rw [List.map_eq_nil_iff] at h0
    subst h0
    exact hz (by simpa using hn.symm)

set_option maxRecDepth 100000 in
set_option maxHeartbeats 4000000 in
theorem to_any (t : Nat) (c : Nat → Value) (l : Let) (me : Nat) (id ms of' ls : Int) (ks : List Int) (w : World) (h : TurnAt w t c) (h4 : c 4 = .int .i64 me) (h5 : c 5 = .int .u64 id) (h6 : c 6 = .int .u64 ms) (hme : me < 64)
    (hless : bits .andNot .u64 of' (2 ^ me) = ls) (hB : Bits ls ks) (hk : ks.length ≤ 64) (hkb : ∀ x ∈ ks, 0 ≤ x ∧ x < 64) (ht : Tab w) :
    Calls Tryz.prog 79 #[.pointer (some ⟨t, 0, none⟩), .agg l.v, .int .u64 of'] w (ToPost w (ks.map fun x => (l.from_ me id ms).to_ x.toNat)) := by
  have c4 := h.cell 4 (by decide)
  have c5 := h.cell 5 (by decide)
  have c6 := h.cell 6 (by decide)
  rw [h4] at c4
  rw [h5] at c5
  rw [h6] at c6
  obtain ⟨kd, fr, to', seq, id0, ms0, bal, old, nid, nms, cut⟩ := l
  unfold Let.v
  simp only
  have htl : t ≠ w.heap.size := Nat.ne_of_lt h.lt
  have HT := Lib.hid ht
  have HH := Lib.hid h
  have H4 := Lib.hid h4
  clear h h4 h5 h6 ht
  go_enter Tryz.func79, Tryz.ntmps79
  go_wp2_with fail
  have hm := (Mod.refl [] w).alloc (.cells #[.int .i64 kd, .int .i64 fr, .int .i64 to', .int .u64 seq, .int .i64 0, .slice none 0 0, .int .u64 id0, .int .u64 ms0, .int .u64 bal, .int .u64 old, .int .u64 nid, .int .u64 nms, .int .u64 cut, .slice none 0 0, .slice none 0 0, .float .f64 0] 42)
  replace c4 := hm.at c4 (by simp)
  replace c5 := hm.at c5 (by simp)
  replace c6 := hm.at c6 (by simp)
  have hr := heap_new w (.cells #[.int .i64 kd, .int .i64 fr, .int .i64 to', .int .u64 seq, .int .i64 0, .slice none 0 0, .int .u64 id0, .int .u64 ms0, .int .u64 bal, .int .u64 old, .int .u64 nid, .int .u64 nms, .int .u64 cut, .slice none 0 0, .slice none 0 0, .float .f64 0] 42)
  have HM := Lib.hid hm
  have HROW := Lib.hid hr
  have HH1 := Lib.hid (HH.out.mod hm (by simp))
  clear hm hr
  generalize w.alloc (.cells #[.int .i64 kd, .int .i64 fr, .int .i64 to', .int .u64 seq, .int .i64 0, .slice none 0 0, .int .u64 id0, .int .u64 ms0, .int .u64 bal, .int .u64 old, .int .u64 nid, .int .u64 nms, .int .u64 cut, .slice none 0 0, .slice none 0 0, .float .f64 0] 42) = W at c4 c5 c6 HM HROW HH1 ⊢
  have HP := Lib.hid (Nat.le_refl w.heap.size)
  revert HP
  generalize hp : w.heap.size = p at HROW htl ⊢
  intro HP
  have HPE := Lib.hid hp
  clear hp HP
  obtain ⟨_, b1, _, _, _, _, b6, b7, _, _, _, _, _, _, _, _⟩ := let_cells HROW.out
  have f1 := free_in (j := 1) HROW.out
  have f6 := free_in (j := 6) HROW.out
  have f7 := free_in (j := 7) HROW.out
  go_region
  have hrow : (((W.setCell ⟨p, 1, none⟩ (.int .i64 me)).setCell ⟨p, 6, none⟩ (.int .u64 id)).setCell ⟨p, 7, none⟩ (.int .u64 ms)).drew.heap[p]? = some (.cells #[.int .i64 kd, .int .i64 me, .int .i64 to', .int .u64 seq, .int .i64 0, .slice none 0 0, .int .u64 id, .int .u64 ms, .int .u64 bal, .int .u64 old, .int .u64 nid, .int .u64 nms, .int .u64 cut, .slice none 0 0, .slice none 0 0, .float .f64 0] 42 (0, 0)) := by
    show ((((W.setCell ⟨p, 1, none⟩ (.int .i64 me)).setCell ⟨p, 6, none⟩ (.int .u64 id)).setCell ⟨p, 7, none⟩ (.int .u64 ms))).heap[p]? = _
    simp [World.setCell, Array.getElem?_modify, HROW.out]
  have hM2 : Mod [p] W (((W.setCell ⟨p, 1, none⟩ (.int .i64 me)).setCell ⟨p, 6, none⟩ (.int .u64 id)).setCell ⟨p, 7, none⟩ (.int .u64 ms)).drew := ((((Mod.refl [p] W).setCell (.inl (by simp)) _).setCell (.inl (by simp)) _).setCell (.inl (by simp)) _).drew
  have HM2 := Lib.hid (HM.out.step hM2 (fun x hx => .inr (by simp at hx; have := HPE.out; omega)))
  have HR2 := Lib.hid hrow
  have HH2 := Lib.hid (HH1.out.mod hM2 (by simpa using htl))
  clear hrow hM2 b1 b6 b7 f1 f6 f7 c4 c5 c6 HROW HM HH1
  generalize (((W.setCell ⟨p, 1, none⟩ (.int .i64 me)).setCell ⟨p, 6, none⟩ (.int .u64 id)).setCell ⟨p, 7, none⟩ (.int .u64 ms)).drew = W2 at HM2 HR2 HH2 ⊢
  have c4 := HH2.out.cell 4 (by decide)
  rw [H4.out] at c4
  go_wp2_with fail
  refine (less_is of' ls me hme hless _).mono ?_
  rintro _ w3 ⟨rfl, rfl⟩
  go_wp2_with fail
  refine (blist_is ls ks hB hk _ (HT.out.mod HM2.out (by simp))).mono ?_
  rintro _ w4 ⟨v, rfl, hO, hM4⟩
  obtain ⟨a, cc, rfl, hrd, hnc, hlc, hcm, hge⟩ := hO.shape
  obtain ⟨n, hn⟩ : ∃ n, ks.length = n := ⟨_, rfl⟩
  rw [hn]
  have HRD := Lib.hid (And.intro hn hrd)
  have HM4 := Lib.hid (HM2.out.trans hM4)
  have HR4 := Lib.hid ((hM4.block p (Array.getElem?_eq_some_iff.1 HR2.out).1 (by simp)).trans HR2.out)
  have HGE := Lib.hid hge
  have hp2 : p < W2.heap.size := (Array.getElem?_eq_some_iff.1 HR2.out).1
  have HP2 := Lib.hid hp2
  have HKB := Lib.hid hkb
  obtain ⟨il, hil, hlz, hls, hlb⟩ := infoLetter
  have hz16 : letZ.cells.size = 16 := rfl
  have hn64 : n ≤ 64 := by have := HRD.out.1; omega
  have HLB := Lib.hid (And.intro hlb hn64)
  clear hO hrd hn hM4 hnc hlc hcm c4 hB hge hp2 hkb hlb hn64
  go_wp2_with fail
  go_loopw [6, 27] (fun v1 i wr => ∃ k : Nat, i = .int .i64 k ∧ k ≤ n ∧ ToRel w4 p ks ⟨kd, me, to', seq, id, ms, bal, old, nid, nms, cut⟩ k v1 wr) (fun _ i _ => n - (intOf i).toNat)
  case atStart => exact ⟨0, rfl, Nat.zero_le _, ⟨rfl, .inl ⟨rfl, rfl⟩⟩, ⟨to', HR4.out⟩, Mod.refl _ _, fun _ => rfl⟩
  case round =>
    obtain ⟨k, rfl, hkn, hrel⟩ := hrel
    by_cases hlt : k < n
    · have hlt' : (k : Int) < n := by omega
      obtain ⟨x, hx⟩ : ∃ x, ks[k]? = some x := ⟨_, List.getElem?_eq_getElem (by have := HRD.out.1; omega)⟩
      have hxb := HKB.out x (List.mem_of_getElem? hx)
      have hrd2 : RdInts .i64 wr a ks := HRD.out.2.mod hrel.2.2.1 (fun ad had => by
        obtain ⟨g, rfl, hg⟩ := HGE.out ad had
        have := HP2.out
        simp
        omega)
      obtain ⟨ad, rfl, _, hc⟩ := hrd2 (by intro e; rw [e] at hx; simp at hx)
      obtain ⟨g, rfl, hg⟩ := HGE.out ad rfl
      have cx := hc k x hx
      rw [add_lit, Nat.zero_add] at cx
      obtain ⟨x0, hlet⟩ := hrel.2.1
      have b2 := cell_in hlet (show (Let.v (Let.to_ ⟨kd, me, to', seq, id, ms, bal, old, nid, nms, cut⟩ x0))[2]? = some (.int .i64 x0) from rfl)
      have f2 := free_in (j := 2) hlet
      have HL := Lib.hid (And.intro hrel (And.intro hx hxb))
      have HLET := Lib.hid hlet
      clear hlet hrel hrd2 hc
      go_upto_region 6 with fail
      have hv : (wr.setCell ⟨p, 2, none⟩ (.int .i64 x)).heap[p]? = some (.cells #[.int .i64 kd, .int .i64 me, .int .i64 x, .int .u64 seq, .int .i64 0, .slice none 0 0, .int .u64 id, .int .u64 ms, .int .u64 bal, .int .u64 old, .int .u64 nid, .int .u64 nms, .int .u64 cut, .slice none 0 0, .slice none 0 0, .float .f64 0] 42 (0, 0)) := by
        have h1 := HLET.out
        unfold LetAt at h1
        simp [World.setCell, Array.getElem?_modify, h1, Let.v, Let.to_]
      have hs5 : Mod [p] wr (wr.setCell ⟨p, 2, none⟩ (.int .i64 x)) := (Mod.refl _ _).setCell (.inl (by simp)) _
      have hpw4 : p < w4.heap.size := (Array.getElem?_eq_some_iff.1 HR4.out).1
      have hown5 := ownsRow_mod HL.out.1.1 hs5 (fun b hb => by have := (ownsRow_ge HL.out.1.1 b hb).1; simp; omega)
      have HV := Lib.hid (And.intro hv (And.intro hs5 hpw4))
      obtain ⟨d0, d1, d2, d3, d4, d5, d6, d7, d8, d9, d10, d11, d12, d13, d14, d15⟩ := let_cells hv
      clear hv hs5
      generalize wr.setCell ⟨p, 2, none⟩ (.int .i64 x) = V at *
      have hown6 := ownsRow_mod hown5 ((Mod.refl [] V).alloc (.cells #[.int .i64 kd, .int .i64 me, .int .i64 x, .int .u64 seq, .int .i64 0, .slice none 0 0, .int .u64 id, .int .u64 ms, .int .u64 bal, .int .u64 old, .int .u64 nid, .int .u64 nms, .int .u64 cut, .slice none 0 0, .slice none 0 0, .float .f64 0] 42)) (by simp)
      have HEV := Lib.hid (World.news_of_block (heap_new V (.cells #[.int .i64 kd, .int .i64 me, .int .i64 x, .int .u64 seq, .int .i64 0, .slice none 0 0, .int .u64 id, .int .u64 ms, .int .u64 bal, .int .u64 old, .int .u64 nid, .int .u64 nms, .int .u64 cut, .slice none 0 0, .slice none 0 0, .float .f64 0] 42)))
      have hby : (k + 1) * il.bytes ≤ 140737488355328 := by
        have := Nat.mul_le_mul (show k + 1 ≤ 65 by have := HLB.out.2; omega) HLB.out.1
        omega
      have hmx : k + 1 ≤ maxLen := by have := HLB.out.2; unfold maxLen; omega
      have hbs : w4.heap.size ≤ (V.alloc (.cells #[.int .i64 kd, .int .i64 me, .int .i64 x, .int .u64 seq, .int .i64 0, .slice none 0 0, .int .u64 id, .int .u64 ms, .int .u64 bal, .int .u64 old, .int .u64 nid, .int .u64 nms, .int .u64 cut, .slice none 0 0, .slice none 0 0, .float .f64 0] 42)).heap.size := by
        have h1 := HL.out.1.2.2.1.size
        have h2 := HV.out.2.1.size
        simp
        omega
      have hwk : wrap64 ((k : Int) + 1) = (k : Int) + 1 := wrap_small (by omega) (by have := HLB.out.2; omega)
      have HAR := Lib.hid (And.intro hown6 (And.intro hmx (And.intro hby (And.intro hbs hwk))))
      clear hown5 hown6 hby hmx hbs hwk
      go_wp2_with (at_builtin; with_reducible refine wpList_append_lies _ rfl (.tmp 33) (.tmp 35) 30 rfl w4.heap.size 42 il _ 16 il.bytes Tryz.underlying30 hil hlz hls rfl hz16 (by decide) u6 k _ rfl HAR.out.1 ⟨V.heap.size, 0, none⟩ 1 1 [.int .i64 kd, .int .i64 me, .int .i64 x, .int .u64 seq, .int .i64 0, .slice none 0 0, .int .u64 id, .int .u64 ms, .int .u64 bal, .int .u64 old, .int .u64 nid, .int .u64 nms, .int .u64 cut, .slice none 0 0, .slice none 0 0, .float .f64 0] rfl rfl HEV.out (by simp [Value.oneCell']) (by decide) HAR.out.2.1 HAR.out.2.2.1 HAR.out.2.2.2.1 _ rfl ?_; intro g2 cap2 w6 hown hgrow hat hlt2)
      refine ⟨⟨k + 1, ?_, hlt, ?_⟩, ?_⟩
      · rw [HAR.out.2.2.2.2]
        rfl
      · exact to_next hpw4 HL.out.1 hx hxb.1 HV.out.2.1 HV.out.1 hown hgrow
      · rw [HAR.out.2.2.2.2]
        show n - ((k : Int) + 1).toNat < n - ((k : Int)).toNat
        omega
    · have hlt' : ¬ (k : Int) < n := by omega
      have hkn' : k = n := Nat.le_antisymm hkn (Nat.le_of_not_lt hlt)
      rw [hkn'] at hrel
      have h := to_done HRD.out.1 hrel HM4.out (Nat.le_of_eq HPE.out)
      have HE := Lib.hid h
      clear hrel h hkn'
      go_wp2_with fail
      go_ret
      exact ⟨_, rfl, HE.out⟩

end Go.Proofs.YtaaaiggbnkeblaaGreatDoor

namespace Go.Proofs.YtaaaiggbnkeblaaGreatDoor
set_option linter.unusedSimpArgs false
set_option linter.unusedVariables false
open Go.RowKit

/-- A turn of the view 4 of the members 7, whose promises are none. -/
structure TS where
  (top old lm lc : Int)
  (me : Nat)
  (frozen : Bool)
  (reach bal seen live joins heard far : Int)
  (asked : Bool)
  (wm wc taken : Int)
  (done : Bool)
  (vm vc : Int)
  (told : Bool)
def TS.c (s : TS) (j : Nat) : Value :=
  if j = 0 then .int .u64 s.top else
  if j = 1 then .int .u64 s.old else
  if j = 2 then .int .u64 s.lm else
  if j = 3 then .int .u64 s.lc else
  if j = 4 then .int .i64 s.me else
  if j = 5 then .int .u64 4 else
  if j = 6 then .int .u64 7 else
  if j = 7 then .bool s.frozen else
  if j = 8 then .int .u64 s.reach else
  if j = 9 then .int .u64 s.bal else
  if j = 10 then .int .u64 s.seen else
  if j = 11 then .int .u64 s.live else
  if j = 12 then .int .u64 s.joins else
  if j = 13 then .int .u64 s.heard else
  if j = 206 then .int .u64 s.far else
  if j = 207 then .bool s.asked else
  if j = 208 then .int .u64 s.wm else
  if j = 209 then .int .u64 s.wc else
  if j = 210 then .int .u64 s.taken else
  if j = 211 then .bool s.done else
  if j = 212 then .int .u64 s.vm else
  if j = 213 then .int .u64 s.vc else
  if j = 214 then .bool s.told else
  .int .u64 0
theorem TurnAt.k0 {w : World} {t : Nat} {s : TS} (h : TurnAt w t s.c) : w.cell? ⟨t, 0, none⟩ = some (.int .u64 s.top) := h.cell 0 (by decide)
theorem TurnAt.k1 {w : World} {t : Nat} {s : TS} (h : TurnAt w t s.c) : w.cell? ⟨t, 1, none⟩ = some (.int .u64 s.old) := h.cell 1 (by decide)
theorem TurnAt.k2 {w : World} {t : Nat} {s : TS} (h : TurnAt w t s.c) : w.cell? ⟨t, 2, none⟩ = some (.int .u64 s.lm) := h.cell 2 (by decide)
theorem TurnAt.k3 {w : World} {t : Nat} {s : TS} (h : TurnAt w t s.c) : w.cell? ⟨t, 3, none⟩ = some (.int .u64 s.lc) := h.cell 3 (by decide)
theorem TurnAt.k4 {w : World} {t : Nat} {s : TS} (h : TurnAt w t s.c) : w.cell? ⟨t, 4, none⟩ = some (.int .i64 s.me) := h.cell 4 (by decide)
theorem TurnAt.k7 {w : World} {t : Nat} {s : TS} (h : TurnAt w t s.c) : w.cell? ⟨t, 7, none⟩ = some (.bool s.frozen) := h.cell 7 (by decide)
theorem TurnAt.k8 {w : World} {t : Nat} {s : TS} (h : TurnAt w t s.c) : w.cell? ⟨t, 8, none⟩ = some (.int .u64 s.reach) := h.cell 8 (by decide)
theorem TurnAt.k9 {w : World} {t : Nat} {s : TS} (h : TurnAt w t s.c) : w.cell? ⟨t, 9, none⟩ = some (.int .u64 s.bal) := h.cell 9 (by decide)
theorem TurnAt.k10 {w : World} {t : Nat} {s : TS} (h : TurnAt w t s.c) : w.cell? ⟨t, 10, none⟩ = some (.int .u64 s.seen) := h.cell 10 (by decide)
theorem TurnAt.k11 {w : World} {t : Nat} {s : TS} (h : TurnAt w t s.c) : w.cell? ⟨t, 11, none⟩ = some (.int .u64 s.live) := h.cell 11 (by decide)
theorem TurnAt.k12 {w : World} {t : Nat} {s : TS} (h : TurnAt w t s.c) : w.cell? ⟨t, 12, none⟩ = some (.int .u64 s.joins) := h.cell 12 (by decide)
theorem TurnAt.k13 {w : World} {t : Nat} {s : TS} (h : TurnAt w t s.c) : w.cell? ⟨t, 13, none⟩ = some (.int .u64 s.heard) := h.cell 13 (by decide)
theorem TurnAt.k206 {w : World} {t : Nat} {s : TS} (h : TurnAt w t s.c) : w.cell? ⟨t, 206, none⟩ = some (.int .u64 s.far) := h.cell 206 (by decide)
theorem TurnAt.k207 {w : World} {t : Nat} {s : TS} (h : TurnAt w t s.c) : w.cell? ⟨t, 207, none⟩ = some (.bool s.asked) := h.cell 207 (by decide)
theorem TurnAt.k208 {w : World} {t : Nat} {s : TS} (h : TurnAt w t s.c) : w.cell? ⟨t, 208, none⟩ = some (.int .u64 s.wm) := h.cell 208 (by decide)
theorem TurnAt.k209 {w : World} {t : Nat} {s : TS} (h : TurnAt w t s.c) : w.cell? ⟨t, 209, none⟩ = some (.int .u64 s.wc) := h.cell 209 (by decide)
theorem TurnAt.k210 {w : World} {t : Nat} {s : TS} (h : TurnAt w t s.c) : w.cell? ⟨t, 210, none⟩ = some (.int .u64 s.taken) := h.cell 210 (by decide)
theorem TurnAt.k211 {w : World} {t : Nat} {s : TS} (h : TurnAt w t s.c) : w.cell? ⟨t, 211, none⟩ = some (.bool s.done) := h.cell 211 (by decide)
theorem TurnAt.k212 {w : World} {t : Nat} {s : TS} (h : TurnAt w t s.c) : w.cell? ⟨t, 212, none⟩ = some (.int .u64 s.vm) := h.cell 212 (by decide)
theorem TurnAt.k213 {w : World} {t : Nat} {s : TS} (h : TurnAt w t s.c) : w.cell? ⟨t, 213, none⟩ = some (.int .u64 s.vc) := h.cell 213 (by decide)
theorem TurnAt.k214 {w : World} {t : Nat} {s : TS} (h : TurnAt w t s.c) : w.cell? ⟨t, 214, none⟩ = some (.bool s.told) := h.cell 214 (by decide)
theorem TurnAt.k5 {w : World} {t : Nat} {s : TS} (h : TurnAt w t s.c) : w.cell? ⟨t, 5, none⟩ = some (.int .u64 4) := h.cell 5 (by decide)
theorem TurnAt.k6 {w : World} {t : Nat} {s : TS} (h : TurnAt w t s.c) : w.cell? ⟨t, 6, none⟩ = some (.int .u64 7) := h.cell 6 (by decide)
theorem TS.prom (s : TS) (j : Nat) (h1 : 14 ≤ j) (h2 : j < 206) : s.c j = .int .u64 0 := by
  unfold TS.c
  rw [if_neg (show ¬ j = 0 by omega)]
  rw [if_neg (show ¬ j = 1 by omega)]
  rw [if_neg (show ¬ j = 2 by omega)]
  rw [if_neg (show ¬ j = 3 by omega)]
  rw [if_neg (show ¬ j = 4 by omega)]
  rw [if_neg (show ¬ j = 5 by omega)]
  rw [if_neg (show ¬ j = 6 by omega)]
  rw [if_neg (show ¬ j = 7 by omega)]
  rw [if_neg (show ¬ j = 8 by omega)]
  rw [if_neg (show ¬ j = 9 by omega)]
  rw [if_neg (show ¬ j = 10 by omega)]
  rw [if_neg (show ¬ j = 11 by omega)]
  rw [if_neg (show ¬ j = 12 by omega)]
  rw [if_neg (show ¬ j = 13 by omega)]
  rw [if_neg (show ¬ j = 206 by omega)]
  rw [if_neg (show ¬ j = 207 by omega)]
  rw [if_neg (show ¬ j = 208 by omega)]
  rw [if_neg (show ¬ j = 209 by omega)]
  rw [if_neg (show ¬ j = 210 by omega)]
  rw [if_neg (show ¬ j = 211 by omega)]
  rw [if_neg (show ¬ j = 212 by omega)]
  rw [if_neg (show ¬ j = 213 by omega)]
  rw [if_neg (show ¬ j = 214 by omega)]
theorem TS.set0 (s : TS) (x : Int) : setC s.c 0 (.int .u64 x) = ({ s with top := x } : TS).c := by
  funext j
  unfold setC TS.c
  by_cases h : j = 0
  · subst h; rfl
  · simp only [h, if_false]
theorem TurnAt.s0 {w : World} {t : Nat} {s : TS} (h : TurnAt w t s.c) (x : Int) : TurnAt (w.setCell ⟨t, 0, none⟩ (.int .u64 x)) t ({ s with top := x } : TS).c := by
  have := h.set 0 (by decide) (.int .u64 x)
  rwa [TS.set0] at this
theorem TS.set1 (s : TS) (x : Int) : setC s.c 1 (.int .u64 x) = ({ s with old := x } : TS).c := by
  funext j
  unfold setC TS.c
  by_cases h : j = 1
  · subst h; rfl
  · simp only [h, if_false]
theorem TurnAt.s1 {w : World} {t : Nat} {s : TS} (h : TurnAt w t s.c) (x : Int) : TurnAt (w.setCell ⟨t, 1, none⟩ (.int .u64 x)) t ({ s with old := x } : TS).c := by
  have := h.set 1 (by decide) (.int .u64 x)
  rwa [TS.set1] at this
theorem TS.set2 (s : TS) (x : Int) : setC s.c 2 (.int .u64 x) = ({ s with lm := x } : TS).c := by
  funext j
  unfold setC TS.c
  by_cases h : j = 2
  · subst h; rfl
  · simp only [h, if_false]
theorem TurnAt.s2 {w : World} {t : Nat} {s : TS} (h : TurnAt w t s.c) (x : Int) : TurnAt (w.setCell ⟨t, 2, none⟩ (.int .u64 x)) t ({ s with lm := x } : TS).c := by
  have := h.set 2 (by decide) (.int .u64 x)
  rwa [TS.set2] at this
theorem TS.set3 (s : TS) (x : Int) : setC s.c 3 (.int .u64 x) = ({ s with lc := x } : TS).c := by
  funext j
  unfold setC TS.c
  by_cases h : j = 3
  · subst h; rfl
  · simp only [h, if_false]
theorem TurnAt.s3 {w : World} {t : Nat} {s : TS} (h : TurnAt w t s.c) (x : Int) : TurnAt (w.setCell ⟨t, 3, none⟩ (.int .u64 x)) t ({ s with lc := x } : TS).c := by
  have := h.set 3 (by decide) (.int .u64 x)
  rwa [TS.set3] at this
theorem TS.set7 (s : TS) (x : Bool) : setC s.c 7 (.bool x) = ({ s with frozen := x } : TS).c := by
  funext j
  unfold setC TS.c
  by_cases h : j = 7
  · subst h; rfl
  · simp only [h, if_false]
theorem TurnAt.s7 {w : World} {t : Nat} {s : TS} (h : TurnAt w t s.c) (x : Bool) : TurnAt (w.setCell ⟨t, 7, none⟩ (.bool x)) t ({ s with frozen := x } : TS).c := by
  have := h.set 7 (by decide) (.bool x)
  rwa [TS.set7] at this
theorem TS.set8 (s : TS) (x : Int) : setC s.c 8 (.int .u64 x) = ({ s with reach := x } : TS).c := by
  funext j
  unfold setC TS.c
  by_cases h : j = 8
  · subst h; rfl
  · simp only [h, if_false]
theorem TurnAt.s8 {w : World} {t : Nat} {s : TS} (h : TurnAt w t s.c) (x : Int) : TurnAt (w.setCell ⟨t, 8, none⟩ (.int .u64 x)) t ({ s with reach := x } : TS).c := by
  have := h.set 8 (by decide) (.int .u64 x)
  rwa [TS.set8] at this
theorem TS.set9 (s : TS) (x : Int) : setC s.c 9 (.int .u64 x) = ({ s with bal := x } : TS).c := by
  funext j
  unfold setC TS.c
  by_cases h : j = 9
  · subst h; rfl
  · simp only [h, if_false]
theorem TurnAt.s9 {w : World} {t : Nat} {s : TS} (h : TurnAt w t s.c) (x : Int) : TurnAt (w.setCell ⟨t, 9, none⟩ (.int .u64 x)) t ({ s with bal := x } : TS).c := by
  have := h.set 9 (by decide) (.int .u64 x)
  rwa [TS.set9] at this
theorem TS.set10 (s : TS) (x : Int) : setC s.c 10 (.int .u64 x) = ({ s with seen := x } : TS).c := by
  funext j
  unfold setC TS.c
  by_cases h : j = 10
  · subst h; rfl
  · simp only [h, if_false]
theorem TurnAt.s10 {w : World} {t : Nat} {s : TS} (h : TurnAt w t s.c) (x : Int) : TurnAt (w.setCell ⟨t, 10, none⟩ (.int .u64 x)) t ({ s with seen := x } : TS).c := by
  have := h.set 10 (by decide) (.int .u64 x)
  rwa [TS.set10] at this
theorem TS.set11 (s : TS) (x : Int) : setC s.c 11 (.int .u64 x) = ({ s with live := x } : TS).c := by
  funext j
  unfold setC TS.c
  by_cases h : j = 11
  · subst h; rfl
  · simp only [h, if_false]
theorem TurnAt.s11 {w : World} {t : Nat} {s : TS} (h : TurnAt w t s.c) (x : Int) : TurnAt (w.setCell ⟨t, 11, none⟩ (.int .u64 x)) t ({ s with live := x } : TS).c := by
  have := h.set 11 (by decide) (.int .u64 x)
  rwa [TS.set11] at this
theorem TS.set12 (s : TS) (x : Int) : setC s.c 12 (.int .u64 x) = ({ s with joins := x } : TS).c := by
  funext j
  unfold setC TS.c
  by_cases h : j = 12
  · subst h; rfl
  · simp only [h, if_false]
theorem TurnAt.s12 {w : World} {t : Nat} {s : TS} (h : TurnAt w t s.c) (x : Int) : TurnAt (w.setCell ⟨t, 12, none⟩ (.int .u64 x)) t ({ s with joins := x } : TS).c := by
  have := h.set 12 (by decide) (.int .u64 x)
  rwa [TS.set12] at this
theorem TS.set13 (s : TS) (x : Int) : setC s.c 13 (.int .u64 x) = ({ s with heard := x } : TS).c := by
  funext j
  unfold setC TS.c
  by_cases h : j = 13
  · subst h; rfl
  · simp only [h, if_false]
theorem TurnAt.s13 {w : World} {t : Nat} {s : TS} (h : TurnAt w t s.c) (x : Int) : TurnAt (w.setCell ⟨t, 13, none⟩ (.int .u64 x)) t ({ s with heard := x } : TS).c := by
  have := h.set 13 (by decide) (.int .u64 x)
  rwa [TS.set13] at this
theorem TS.set206 (s : TS) (x : Int) : setC s.c 206 (.int .u64 x) = ({ s with far := x } : TS).c := by
  funext j
  unfold setC TS.c
  by_cases h : j = 206
  · subst h; rfl
  · simp only [h, if_false]
theorem TurnAt.s206 {w : World} {t : Nat} {s : TS} (h : TurnAt w t s.c) (x : Int) : TurnAt (w.setCell ⟨t, 206, none⟩ (.int .u64 x)) t ({ s with far := x } : TS).c := by
  have := h.set 206 (by decide) (.int .u64 x)
  rwa [TS.set206] at this
theorem TS.set207 (s : TS) (x : Bool) : setC s.c 207 (.bool x) = ({ s with asked := x } : TS).c := by
  funext j
  unfold setC TS.c
  by_cases h : j = 207
  · subst h; rfl
  · simp only [h, if_false]
theorem TurnAt.s207 {w : World} {t : Nat} {s : TS} (h : TurnAt w t s.c) (x : Bool) : TurnAt (w.setCell ⟨t, 207, none⟩ (.bool x)) t ({ s with asked := x } : TS).c := by
  have := h.set 207 (by decide) (.bool x)
  rwa [TS.set207] at this
theorem TS.set208 (s : TS) (x : Int) : setC s.c 208 (.int .u64 x) = ({ s with wm := x } : TS).c := by
  funext j
  unfold setC TS.c
  by_cases h : j = 208
  · subst h; rfl
  · simp only [h, if_false]
theorem TurnAt.s208 {w : World} {t : Nat} {s : TS} (h : TurnAt w t s.c) (x : Int) : TurnAt (w.setCell ⟨t, 208, none⟩ (.int .u64 x)) t ({ s with wm := x } : TS).c := by
  have := h.set 208 (by decide) (.int .u64 x)
  rwa [TS.set208] at this
theorem TS.set209 (s : TS) (x : Int) : setC s.c 209 (.int .u64 x) = ({ s with wc := x } : TS).c := by
  funext j
  unfold setC TS.c
  by_cases h : j = 209
  · subst h; rfl
  · simp only [h, if_false]
theorem TurnAt.s209 {w : World} {t : Nat} {s : TS} (h : TurnAt w t s.c) (x : Int) : TurnAt (w.setCell ⟨t, 209, none⟩ (.int .u64 x)) t ({ s with wc := x } : TS).c := by
  have := h.set 209 (by decide) (.int .u64 x)
  rwa [TS.set209] at this
theorem TS.set210 (s : TS) (x : Int) : setC s.c 210 (.int .u64 x) = ({ s with taken := x } : TS).c := by
  funext j
  unfold setC TS.c
  by_cases h : j = 210
  · subst h; rfl
  · simp only [h, if_false]
theorem TurnAt.s210 {w : World} {t : Nat} {s : TS} (h : TurnAt w t s.c) (x : Int) : TurnAt (w.setCell ⟨t, 210, none⟩ (.int .u64 x)) t ({ s with taken := x } : TS).c := by
  have := h.set 210 (by decide) (.int .u64 x)
  rwa [TS.set210] at this
theorem TS.set211 (s : TS) (x : Bool) : setC s.c 211 (.bool x) = ({ s with done := x } : TS).c := by
  funext j
  unfold setC TS.c
  by_cases h : j = 211
  · subst h; rfl
  · simp only [h, if_false]
theorem TurnAt.s211 {w : World} {t : Nat} {s : TS} (h : TurnAt w t s.c) (x : Bool) : TurnAt (w.setCell ⟨t, 211, none⟩ (.bool x)) t ({ s with done := x } : TS).c := by
  have := h.set 211 (by decide) (.bool x)
  rwa [TS.set211] at this
theorem TS.set212 (s : TS) (x : Int) : setC s.c 212 (.int .u64 x) = ({ s with vm := x } : TS).c := by
  funext j
  unfold setC TS.c
  by_cases h : j = 212
  · subst h; rfl
  · simp only [h, if_false]
theorem TurnAt.s212 {w : World} {t : Nat} {s : TS} (h : TurnAt w t s.c) (x : Int) : TurnAt (w.setCell ⟨t, 212, none⟩ (.int .u64 x)) t ({ s with vm := x } : TS).c := by
  have := h.set 212 (by decide) (.int .u64 x)
  rwa [TS.set212] at this
theorem TS.set213 (s : TS) (x : Int) : setC s.c 213 (.int .u64 x) = ({ s with vc := x } : TS).c := by
  funext j
  unfold setC TS.c
  by_cases h : j = 213
  · subst h; rfl
  · simp only [h, if_false]
theorem TurnAt.s213 {w : World} {t : Nat} {s : TS} (h : TurnAt w t s.c) (x : Int) : TurnAt (w.setCell ⟨t, 213, none⟩ (.int .u64 x)) t ({ s with vc := x } : TS).c := by
  have := h.set 213 (by decide) (.int .u64 x)
  rwa [TS.set213] at this
theorem TS.set214 (s : TS) (x : Bool) : setC s.c 214 (.bool x) = ({ s with told := x } : TS).c := by
  funext j
  unfold setC TS.c
  by_cases h : j = 214
  · subst h; rfl
  · simp only [h, if_false]
theorem TurnAt.s214 {w : World} {t : Nat} {s : TS} (h : TurnAt w t s.c) (x : Bool) : TurnAt (w.setCell ⟨t, 214, none⟩ (.bool x)) t ({ s with told := x } : TS).c := by
  have := h.set 214 (by decide) (.bool x)
  rwa [TS.set214] at this
theorem TurnAt.drew {w : World} {t : Nat} {c : Nat → Value} (h : TurnAt w t c) : TurnAt w.drew t c := ⟨h.cell, h.free⟩

/-- A turn in its world. -/
def TEnv (w : World) (t : Nat) (s : TS) : Prop := TurnAt w t s.c ∧ Tab w ∧ t ≠ 1
theorem TEnv.mod {w w' : World} {S : List Nat} {t : Nat} {s : TS} (h : TEnv w t s) (hM : Mod S w w') (hs : t ∉ S) (hg : 1 ∉ S) : TEnv w' t s :=
  ⟨h.1.mod hM hs, h.2.1.mod hM hg, h.2.2⟩
theorem TEnv.mod0 {w w' : World} {t : Nat} {s : TS} (h : TEnv w t s) (hM : Mod [] w w') : TEnv w' t s := h.mod hM (by simp) (by simp)
/-- The turn itself turned. -/
theorem TEnv.own {w w' : World} {t : Nat} {s s' : TS} (h : TEnv w t s) (hM : Mod [t] w w') (ha : TurnAt w' t s'.c) : TEnv w' t s' :=
  ⟨ha, h.2.1.mod hM (by simpa using h.2.2.symm), h.2.2⟩

def OutPost (w : World) (t : Nat) (s' : TS) (L : List Let) (v : Value) (w' : World) : Prop := Lets w' w.heap.size v L ∧ (L = [] → v = .slice none 0 0) ∧ TEnv w' t s' ∧ Mod [t] w w'
def Gives1 (t : Nat) (s s' : TS) (L : List Let) (f : Nat) (args : Array Value) : Prop := ∀ w, TEnv w t s → Calls Tryz.prog f args w fun e w' => ∃ v, e = .returned v ∧ OutPost w t s' L v w'
def Gives (t : Nat) (s s' : TS) (L : List Let) (er : Int) (f : Nat) (args : Array Value) : Prop := ∀ w, TEnv w t s → Calls Tryz.prog f args w fun e w' => ∃ v, e = .returned (.tuple #[v, .int .i64 er]) ∧ OutPost w t s' L v w'

theorem Lets.base {w : World} {B B' : Nat} {v : Value} {L : List Let} (h : Lets w B v L) (hB : B' ≤ B) : Lets w B' v L := by
  obtain ⟨hl, h⟩ := h
  refine ⟨hl, ?_⟩
  rcases h with ⟨rfl, h0⟩ | ⟨g, cap, cur, rfl, hb, hg, h1, h2, h3, h4⟩
  · exact .inl ⟨rfl, h0⟩
  · exact .inr ⟨g, cap, cur, rfl, Nat.le_trans hB hb, hg, h1, h2, h3, h4⟩
theorem Lets.mod {w w' : World} {B : Nat} {v : Value} {L : List Let} {S : List Nat} (h : Lets w B v L) (hM : Mod S w w') (hs : ∀ x ∈ S, x < B) : Lets w' B v L :=
  ownsRow_mod h hM (fun b hb hm => by have := (ownsRow_ge h b hb).1; have := hs b hm; omega)
theorem Lets.nil (w : World) (B : Nat) : Lets w B (.slice none 0 0) [] := ⟨rfl, .inl ⟨rfl, rfl⟩⟩
theorem OutPost.back {w w1 w' : World} {t : Nat} {s : TS} {L : List Let} {v : Value} (h : OutPost w1 t s L v w') (hM : Mod [t] w w1) : OutPost w t s L v w' :=
  ⟨h.1.base hM.size, h.2.1, h.2.2.1, hM.trans h.2.2.2⟩
theorem OutPost.back0 {w w1 w' : World} {t : Nat} {s : TS} {L : List Let} {v : Value} (h : OutPost w1 t s L v w') (hM : Mod [] w w1) : OutPost w t s L v w' := h.back (hM.mono (by simp))
theorem OutPost.fwd {w w1 w' : World} {t : Nat} {s : TS} {L : List Let} {v : Value} (h : OutPost w t s L v w1) (hM : Mod [] w1 w') : OutPost w t s L v w' :=
  ⟨h.1.mod hM (by simp), h.2.1, h.2.2.1.mod0 hM, h.2.2.2.trans (hM.mono (by simp))⟩
/-- Nothing is sent. -/
theorem OutPost.none {w w' : World} {t : Nat} {s : TS} (h : TEnv w' t s) (hM : Mod [t] w w') : OutPost w t s [] (.slice none 0 0) w' := ⟨Lets.nil _ _, fun _ => rfl, h, hM⟩
/-- A slice of one letter in a block of its own. -/
theorem lets_one {w : World} {B p : Nat} {l : Let} (h : w.heap[p]? = some (.cells l.v 42 (0, 0))) (hB : B ≤ p) : Lets w B (.slice (some ⟨p, 0, none⟩) 1 1) [l] :=
  ⟨by simp [lflat, Let.v], .inr ⟨p, 1, l.v, rfl, hB, h, Nat.le_refl _, by unfold maxLen; omega, rfl, by simp [lflat, Let.v]⟩⟩

/-- An acceptor's cells turned, the others not. -/
theorem TurnAt.acc {w w' : World} {t : Nat} {s : TS} {b old ms cut : Int} (h : TurnAt w t s.c) (ha : AccAt w' t b old ms cut) (hk : ∀ j, 4 ≤ j → w'.cell? ⟨t, j, none⟩ = w.cell? ⟨t, j, none⟩) : TurnAt w' t ({ s with top := b, old := old, lm := ms, lc := cut } : TS).c := by
  refine ⟨fun j hj => ?_, ha.f⟩
  by_cases h4 : 4 ≤ j
  · rw [hk j h4, h.cell j hj]
    unfold TS.c
    rw [if_neg (show ¬ j = 0 by omega), if_neg (show ¬ j = 1 by omega), if_neg (show ¬ j = 2 by omega), if_neg (show ¬ j = 3 by omega), if_neg (show ¬ j = 0 by omega), if_neg (show ¬ j = 1 by omega), if_neg (show ¬ j = 2 by omega), if_neg (show ¬ j = 3 by omega)]
  · have h4' : j = 0 ∨ j = 1 ∨ j = 2 ∨ j = 3 := by omega
    rcases h4' with rfl | rfl | rfl | rfl
    · exact ha.c0
    · exact ha.c1
    · exact ha.c2
    · exact ha.c3

theorem to_s (t : Nat) (s : TS) (l : Let) (of' ls : Int) (ks : List Int) (hme : s.me < 64) (hless : bits .andNot .u64 of' (2 ^ s.me) = ls) (hB : Bits ls ks) (hk : ks.length ≤ 64) (hkb : ∀ x ∈ ks, 0 ≤ x ∧ x < 64) :
    Gives1 t s s (ks.map fun x => (l.from_ s.me 4 7).to_ x.toNat) 79 #[.pointer (some ⟨t, 0, none⟩), .agg l.v, .int .u64 of'] := by
  intro w h
  refine (to_any t s.c l s.me 4 7 of' ls ks w h.1 rfl rfl rfl hme hless hB hk hkb h.2.1).mono ?_
  rintro _ w' ⟨v, rfl, hL, hn, hM⟩
  exact ⟨v, rfl, hL, hn, h.mod0 hM, hM.mono (by simp)⟩

end Go.Proofs.YtaaaiggbnkeblaaGreatDoor
