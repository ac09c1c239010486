/-
  TopKnown: take at an update of a node that is not known yet.
  TopKnown: the walk of conventicleref07.Same at two lists of the same calm updates.
  TopKnown, plain: who knows whom, whom one asks next.
-/
import Derived.Test.YtaaaiggbnkeblaaGreatDoorMKnG
import Derived.Test.YtaaaiggbnkeblaaGreatDoorMKnR
namespace Go.Proofs.YtaaaiggbnkeblaaGreatDoor
set_option linter.unusedSimpArgs false
set_option linter.unusedVariables false
open Go.RowKit

def learnOk : Bool := (List.range 64).all fun h => (List.range 6).all fun k => (bits .or .u64 (h : Int) (2 ^ k) == ((h ||| 2 ^ k : Nat) : Int)) && decide (h ||| 2 ^ k < 64) && (List.range 6).all fun j => (bits .and .u64 ((h ||| 2 ^ k : Nat) : Int) (2 ^ j) != 0) == ((j == k) || (bits .and .u64 (h : Int) (2 ^ j) != 0))
theorem learnOk_is : learnOk = true := by kernel_rfl
theorem learn_bits (h k : Nat) (hh : h < 64) (hk : k < 6) : bits .or .u64 (h : Int) (2 ^ k) = ((h ||| 2 ^ k : Nat) : Int) ∧ h ||| 2 ^ k < 64 ∧ ∀ j, j < 6 → (bits .and .u64 ((h ||| 2 ^ k : Nat) : Int) (2 ^ j) != 0) = ((j == k) || (bits .and .u64 (h : Int) (2 ^ j) != 0)) := by
  have h0 := List.all_eq_true.1 learnOk_is h (List.mem_range.2 hh)
  have h1 := List.all_eq_true.1 h0 k (List.mem_range.2 hk)
  simp only [Bool.and_eq_true, beq_iff_eq, decide_eq_true_eq, List.all_eq_true, List.mem_range] at h1
  exact ⟨h1.1.1, h1.1.2, h1.2⟩

def KS.learn (K : KS) (k : Nat) : KS := { K with has := K.has ||| 2 ^ k, f := rollPut K.f k ((k : Int), 0, 0) }
def KS.lefts (K : KS) (L : List Int) : KS := { K with L := L }
theorem KS.At.heard {K : KS} {w w' : World} {G : List Nat} {n k : Nat} (h : K.At w G n) (hk : k < 6) (hm : Mod [K.r] w w') (hR : RollAt w' K.r K.me (K.learn k).f (K.learn k).has) : (K.learn k).At w' G n := by
  have hd : K.d ∉ [K.r] := by simpa using h.ne.1
  have hb : K.b ∉ [K.r] := by simpa using h.ne.2.2.symm
  obtain ⟨l1, l2, l3⟩ := learn_bits K.has k h.calm.lt hk
  refine ⟨hm.at h.roll hd, h.left.mod hm hd (by simpa using h.inG.2.1), hm.at h.me hd, hm.at h.rum hd, hm.at h.dou hd, hm.at h.wat hd, hm.at h.err hd, hm.at h.seq hd, hm.at h.now hd, hm.at h.gone hd, fun j => (hm.frozen (by exact h.lt) hd).trans (h.free j), ⟨hR, l2, h.calm.me6, ?_, fun j hj hb => ?_⟩, h.q.kept hm hb, h.len, h.ne, h.inG, fun g hg => Nat.lt_of_lt_of_le (h.lo g hg) hm.size⟩
  · show (bits .and .u64 ((K.has ||| 2 ^ k : Nat) : Int) (2 ^ K.me) != 0) = true
    rw [l3 _ h.calm.me6, h.calm.own]
    simp
  · have h1 := l3 j hj
    have hb' : (bits .and .u64 ((K.has ||| 2 ^ k : Nat) : Int) (2 ^ j) != 0) = true := hb
    rw [hb'] at h1
    show rollPut K.f k ((k : Int), 0, 0) j = _
    unfold rollPut
    by_cases e : j = k
    · rw [if_pos e, e]
    · rw [if_neg e]
      have : (j == k) = false := by simp [e]
      rw [this, Bool.false_or] at h1
      exact h.calm.calm j hj h1.symm
theorem KS.At.rumored {K : KS} {w w' : World} {G : List Nat} {n : Nat} (h : K.At w G n) (hm : Mod [K.b] w w') (hq : QMap w' K.b n) : K.At w' G n := by
  have hd : K.d ∉ [K.b] := by simpa using h.ne.2.1
  have hr : K.r ∉ [K.b] := by simpa using h.ne.2.2
  exact ⟨hm.at h.roll hd, h.left.mod hm hd (by simpa using h.inG.2.2), hm.at h.me hd, hm.at h.rum hd, hm.at h.dou hd, hm.at h.wat hd, hm.at h.err hd, hm.at h.seq hd, hm.at h.now hd, hm.at h.gone hd, fun j => (hm.frozen (by exact h.lt) hd).trans (h.free j), h.calm.mod hm hr, hq, h.len, h.ne, h.inG, fun g hg => Nat.lt_of_lt_of_le (h.lo g hg) hm.size⟩
/-- One cell of the detector is another one. -/
theorem KS.At.rounded {K : KS} {w w' : World} {G : List Nat} {n dl : Nat} {L : List Int} (h : K.At w G n) (hR : RoundO G w' K.d L) (hm : Mod [dl, K.d] w w') (hk : Kept K.d 1 w w') (hr : K.r ≠ dl) (hb : K.b ≠ dl) (hl : L.length ≤ 100) : (K.lefts L).At w' G n := by
  have hr' : K.r ∉ [dl, K.d] := by simp; exact ⟨hr, h.ne.1.symm⟩
  have hb' : K.b ∉ [dl, K.d] := by simp; exact ⟨hb, h.ne.2.1.symm⟩
  have c : ∀ j v, j ≠ 1 → w.cell? ⟨K.d, j, none⟩ = some v → w'.cell? ⟨K.d, j, none⟩ = some v := fun j v hj hc => ((hk j).1 hj).trans hc
  exact ⟨c 0 _ (by decide) h.roll, hR, c 2 _ (by decide) h.me, c 3 _ (by decide) h.rum, c 4 _ (by decide) h.dou, c 5 _ (by decide) h.wat, c 6 _ (by decide) h.err, c 7 _ (by decide) h.seq, c 8 _ (by decide) h.now, c 9 _ (by decide) h.gone, fun j => (hk j).2.trans (h.free j), h.calm.mod hm hr', h.q.kept hm hb', hl, h.ne, h.inG, fun g hg => Nat.lt_of_lt_of_le (h.lo g hg) hm.size⟩
theorem RoundO.more {G G' : List Nat} {w w' : World} {r : Nat} {L : List Int} (h : RoundO G w r L) (hm : Mod [] w w') (hG : ∀ g ∈ G', g ∈ G ∨ w.heap.size ≤ g) : RoundO G' w' r L := by
  have h' := h.same hm
  obtain ⟨a, c, h1, h2, h3, h4, h5, h6, h7⟩ := h
  refine ⟨a, c, (hm.cell h6 (by simp)).trans h1, (hm.frozen h6 (by simp)).trans h2, h3, h4, h5, Nat.lt_of_lt_of_le h6 hm.size, fun hne => ?_⟩
  obtain ⟨g, off, ha, hg, hlt, hc⟩ := h7 hne
  refine ⟨g, off, ha, fun hs => ?_, Nat.lt_of_lt_of_le hlt hm.size, fun j x hj => (hm.cell hlt (by simp)).trans (hc j x hj)⟩
  rcases hG g hs with h | h
  · exact hg h
  · omega
theorem RoundO.less {G G' : List Nat} {w : World} {r : Nat} {L : List Int} (h : RoundO G w r L) (hG : ∀ g ∈ G', g ∈ G) : RoundO G' w r L := by
  obtain ⟨a, c, h1, h2, h3, h4, h5, h6, h7⟩ := h
  refine ⟨a, c, h1, h2, h3, h4, h5, h6, fun hne => ?_⟩
  obtain ⟨g, off, ha, hg, hlt, hc⟩ := h7 hne
  exact ⟨g, off, ha, fun hs => hg (hG g hs), hlt, hc⟩
theorem KS.At.more {K : KS} {w w' : World} {G G' : List Nat} {n : Nat} (h : K.At w G n) (hm : Mod [] w w') (hG : ∀ g ∈ G', g ∈ G ∨ w.heap.size ≤ g) (hin : ∀ g ∈ G, g ∈ G') (hlo : ∀ g ∈ G', g < w'.heap.size) : K.At w' G' n :=
  have h' := h.same hm
  ⟨h'.roll, h.left.more hm hG, h'.me, h'.rum, h'.dou, h'.wat, h'.err, h'.seq, h'.now, h'.gone, h'.free, h'.calm, h'.q, h'.len, h'.ne, ⟨hin _ h.inG.1, hin _ h.inG.2.1, hin _ h.inG.2.2⟩, hlo⟩
theorem KS.At.less {K : KS} {w : World} {G G' : List Nat} {n : Nat} (h : K.At w G n) (hG : ∀ g ∈ G', g ∈ G) (hin : K.d ∈ G' ∧ K.r ∈ G' ∧ K.b ∈ G') : K.At w G' n :=
  ⟨h.roll, h.left.less hG, h.me, h.rum, h.dou, h.wat, h.err, h.seq, h.now, h.gone, h.free, h.calm, h.q, h.len, h.ne, hin, fun g hg => h.lo g (hG g hg)⟩
theorem insAt_length (k : Nat) (y : Int) (xs : List Int) (h : k ≤ xs.length) : (insAt k y xs).length = xs.length + 1 := by
  simp [insAt]
  omega
theorem joinL_length (L : List Int) (y : Int) (ls : List Int) : (joinL L y ls).length ≤ L.length + 1 := by
  unfold joinL
  split
  · omega
  · have := lotBelow_range ls ((L.length : Int) + 1)
    rw [insAt_length]
    · omega
    · unfold joinK
      have := this.2 (by omega)
      omega
theorem khear_new {K : KS} {w : World} {G : List Nat} {n k : Nat} (h : K.At w G n) (hk : k < 6) (hb : ¬ K.knows k) : Calls Tryz.prog 97 #[.pointer (some ⟨K.r, 0, none⟩), .agg #[.int .i64 k, .int .u64 0, .int .i64 0]] w fun e w' => e = .returned (.tuple #[.bool true, .int .i64 0]) ∧ RollAt w' K.r K.me (K.learn k).f (K.learn k).has ∧ Mod [K.r] w w' := by
  have e : k ≠ K.me := fun e => hb (by rw [e]; exact h.calm.own)
  exact hear_new K.r K.me k (by have := h.calm.me6; omega) (by omega) e 0 0 K.has (K.learn k).has (by decide) K.f w h.calm.roll (by unfold KS.knows at hb; simpa using hb) (learn_bits K.has k h.calm.lt hk).1
theorem khear_newA {K : KS} {w : World} {G : List Nat} {n k : Nat} (h : K.At w G n) (hk : k < 6) (hb : ¬ K.knows k) : Calls Tryz.prog 97 #[.pointer (some ⟨K.r, 0, none⟩), .agg #[.int .i64 k, .int .u64 0, .int .i64 0]] w fun e w' => e = .returned (.tuple #[.bool true, .int .i64 0]) ∧ (K.learn k).At w' G n ∧ Mod [K.r] w w' :=
  (khear_new h hk hb).mono fun e w' ⟨h1, h2, h3⟩ => ⟨h1, h.heard hk h3 h2, h3⟩

end Go.Proofs.YtaaaiggbnkeblaaGreatDoor

namespace Go.Proofs.YtaaaiggbnkeblaaGreatDoor
set_option linter.unusedSimpArgs false
set_option linter.unusedVariables false
open Go.RowKit

/-- A slice of calm updates of these nodes. -/
def CalmUs (w : World) (B : Nat) (v : Value) (L : List Nat) : Prop := ∃ a c, v = .slice a L.length c ∧ (L ≠ [] → ∃ g, a = some ⟨g, 0, none⟩ ∧ g < w.heap.size ∧ B ≤ g ∧ ∀ t k : Nat, L[t]? = some k → w.cell? ⟨g, t * 3, none⟩ = some (.int .i64 k) ∧ w.cell? ⟨g, t * 3 + 1, none⟩ = some (.int .u64 0) ∧ w.cell? ⟨g, t * 3 + 2, none⟩ = some (.int .i64 0))
theorem CalmUs.mod {S : List Nat} {w w' : World} {B : Nat} {v : Value} {L : List Nat} (h : CalmUs w B v L) (hm : Mod S w w') (hS : ∀ s ∈ S, s < B) : CalmUs w' B v L := by
  obtain ⟨a, c, rfl, hc⟩ := h
  refine ⟨a, c, rfl, fun h0 => ?_⟩
  obtain ⟨g, rfl, hg, hB, hx⟩ := hc h0
  have hgS : g ∉ S := fun h => by have := hS g h; omega
  exact ⟨g, rfl, Nat.lt_of_lt_of_le hg hm.size, hB, fun t k hk => ⟨hm.at (hx t k hk).1 hgS, hm.at (hx t k hk).2.1 hgS, hm.at (hx t k hk).2.2 hgS⟩⟩
theorem CalmUs.same {w w' : World} {B : Nat} {v : Value} {L : List Nat} (h : CalmUs w B v L) (hm : Mod [] w w') : CalmUs w' B v L := h.mod hm (by simp)
theorem calmUs_of {w : World} {B : Nat} {v : Value} {L : List Nat} (h : Upds w B v (L.map calmU)) : CalmUs w B v L := by
  have hl : (L.map calmU).length = L.length := List.length_map _
  by_cases h0 : L = []
  · subst h0
    rcases h.2 with ⟨rfl, _⟩ | ⟨g, cap, cur, rfl, _⟩
    · exact ⟨none, 0, rfl, fun h => absurd rfl h⟩
    · exact ⟨_, cap, rfl, fun h => absurd rfl h⟩
  · obtain ⟨g, cap, rfl, _, _⟩ := h.form (by rw [hl]; exact List.length_pos_iff.2 h0)
    refine ⟨some ⟨g, 0, none⟩, cap, by rw [hl], fun _ => ⟨g, rfl, ?_, (ownsRow_ge h g rfl).1, fun t k hk => ?_⟩⟩
    · obtain ⟨k, hk⟩ : ∃ k, L[0]? = some k := ⟨_, List.getElem?_eq_getElem (List.length_pos_iff.2 h0)⟩
      exact block_lt_of_cell (ownsRow_cells h _ _ (uflat_at _ 0 (calmU k) (by rw [List.getElem?_map, hk]; rfl)).1)
    · have := uflat_at (L.map calmU) t (calmU k) (by rw [List.getElem?_map, hk]; rfl)
      exact ⟨ownsRow_cells h _ _ this.1, ownsRow_cells h _ _ this.2.1, ownsRow_cells h _ _ this.2.2⟩

set_option maxRecDepth 100000 in
set_option maxHeartbeats 4000000 in
theorem same07 (L : List Nat) (h6 : ∀ k ∈ L, k < 6) (va vb : Value) (B B2 : Nat) (w : World) (ha : CalmUs w B va L) (hb : CalmUs w B2 vb L) (hl : L.length ≤ 1000000) :
    Calls Tryz.prog 16 #[va, vb] w fun e w' => e = .returned (.bool true) ∧ Mod [] w w' := by
  obtain ⟨a, c, rfl, ha⟩ := ha
  obtain ⟨b, c2, rfl, hb⟩ := hb
  obtain ⟨n, hn⟩ : ∃ n, L.length = n := ⟨_, rfl⟩
  rw [hn] at hl ⊢
  have HA := Lib.hid ha
  have HB := Lib.hid hb
  have H6 := Lib.hid h6
  have HN := Lib.hid hn
  clear ha hb h6 hn
  go_enter Tryz.func16, Tryz.ntmps16
  go_wp2_with fail
  go_loopw [5] (fun v wr => ∃ k : Nat, v = .int .i64 k ∧ k ≤ n ∧ Mod [] w wr) (fun v _ => n - (intOf v).toNat)
  case atStart => exact ⟨0, rfl, Nat.zero_le _, Mod.refl _ _⟩
  case round =>
    obtain ⟨k, rfl, hk, hM⟩ := hrel
    by_cases hlt : k < n
    · have hlt' : (k : Int) < n := by omega
      have hkL : k < L.length := by have := HN.out; omega
      have hne : L ≠ [] := by intro h; rw [h] at hkL; simp at hkL
      obtain ⟨g, rfl, _, _, hr⟩ := HA.out hne
      obtain ⟨g2, rfl, _, _, hr2⟩ := HB.out hne
      obtain ⟨x, hx⟩ : ∃ x, L[k]? = some x := ⟨_, List.getElem?_eq_getElem hkL⟩
      have hx6 := H6.out x (List.mem_of_getElem? hx)
      obtain ⟨x0, x1, x2⟩ := hr k x hx
      obtain ⟨y0, y1, y2⟩ := hr2 k x hx
      replace x0 := hM.at x0 (by simp)
      replace x1 := hM.at x1 (by simp)
      replace x2 := hM.at x2 (by simp)
      replace y0 := hM.at y0 (by simp)
      replace y1 := hM.at y1 (by simp)
      replace y2 := hM.at y2 (by simp)
      have HM := Lib.hid hM
      have heq := upd_eql x hx6
      clear hr hr2 hx hne hM hkL
      go_wp2_with fail
      go_quiet (fail)
      go_wp2_with fail
      go_roundw
      case rel => exact ⟨k + 1, by go_num, by omega, HM.out.drewN _⟩
      case measure => simp [intOf]; omega
    · have hlt' : ¬ (k : Int) < n := by omega
      have HM := Lib.hid hM
      clear hM
      go_wp2_with fail
      go_ret
      exact ⟨rfl, HM.out⟩

end Go.Proofs.YtaaaiggbnkeblaaGreatDoor

namespace Go.Proofs.YtaaaiggbnkeblaaGreatDoor
set_option linter.unusedSimpArgs false
set_option linter.unusedVariables false
open Go.RowKit

def fullOk (n : Nat) : Bool := (List.range n).all fun k => (bits .and .u64 ((2 ^ n - 1 : Nat) : Int) (2 ^ k) != 0) && decide (2 ^ n - 1 < 64) && ((2 ^ k ||| (2 ^ n - 1)) == 2 ^ n - 1) && (match bitsList 9 (bits .andNot .u64 ((2 ^ n - 1 : Nat) : Int) (2 ^ k)) with
  | some ks => decide (ks.length ≤ 6) && ks.all (fun x => decide (0 ≤ x) && decide (x < n) && decide (x ≠ k)) && decide (0 < ks.length)
  | none => false)
theorem fullOk_is : ((List.range 7).all fun n => decide (n < 2) || fullOk n) = true := by kernel_rfl
theorem full_facts (n k : Nat) (hn : 2 ≤ n ∧ n ≤ 6) (hk : k < n) : (bits .and .u64 ((2 ^ n - 1 : Nat) : Int) (2 ^ k) != 0) = true ∧ 2 ^ n - 1 < 64 ∧ 2 ^ k ||| (2 ^ n - 1) = 2 ^ n - 1 ∧ ∃ ks : List Int, Bits (bits .andNot .u64 ((2 ^ n - 1 : Nat) : Int) (2 ^ k)) ks ∧ ks.length ≤ 6 ∧ ks ≠ [] ∧ ∀ x ∈ ks, 0 ≤ x ∧ x < n ∧ x ≠ k := by
  have h0 := List.all_eq_true.1 fullOk_is n (List.mem_range.2 (by omega))
  have h2 : decide (n < 2) = false := by simpa using hn.1
  simp only [h2, Bool.false_or] at h0
  have h1 := List.all_eq_true.1 h0 k (List.mem_range.2 hk)
  simp only [Bool.and_eq_true, decide_eq_true_eq, beq_iff_eq] at h1
  refine ⟨h1.1.1.1, h1.1.1.2, h1.1.2, ?_⟩
  have h3 := h1.2
  split at h3
  · rename_i ks hks
    simp only [Bool.and_eq_true, decide_eq_true_eq, List.all_eq_true] at h3
    exact ⟨ks, bitsList_ok _ _ _ hks, h3.1.1, List.length_pos_iff.1 h3.2, fun x hx => ⟨(h3.1.2 x hx).1.1, (h3.1.2 x hx).1.2, (h3.1.2 x hx).2⟩⟩
  · cases h3

def growOk : Bool := (List.range 6).all fun me => (List.range 6).all fun k => decide ((2 ^ me ||| (2 ^ k - 1)) < 64) && ((bits .and .u64 ((2 ^ me ||| (2 ^ k - 1) : Nat) : Int) (2 ^ k) != 0) == ((me == k))) && ((2 ^ me ||| (2 ^ k - 1)) ||| 2 ^ k == (2 ^ me ||| (2 ^ (k + 1) - 1))) && (!(me == k) || ((2 ^ me ||| (2 ^ k - 1)) == (2 ^ me ||| (2 ^ (k + 1) - 1))))
theorem growOk_is : growOk = true := by kernel_rfl
/-- So many know who knows itself and the first k. -/
def hasAt (me k : Nat) : Nat := 2 ^ me ||| (2 ^ k - 1)
theorem has_grow (me k : Nat) (hme : me < 6) (hk : k < 6) : hasAt me k < 64 ∧ (bits .and .u64 (hasAt me k : Int) (2 ^ k) != 0) = (me == k) ∧ hasAt me k ||| 2 ^ k = hasAt me (k + 1) ∧ (me = k → hasAt me k = hasAt me (k + 1)) := by
  have h0 := List.all_eq_true.1 growOk_is me (List.mem_range.2 hme)
  have h1 := List.all_eq_true.1 h0 k (List.mem_range.2 hk)
  simp only [Bool.and_eq_true, decide_eq_true_eq, beq_iff_eq, Bool.or_eq_true, Bool.not_eq_true', beq_eq_false_iff_ne] at h1
  refine ⟨h1.1.1.1, h1.1.1.2, h1.1.2, fun e => ?_⟩
  rcases h1.2 with h | h
  · exact absurd e h
  · exact h

theorem rNext_one (L xs ls : List Int) (hx : xs ≠ []) : (rNext L xs ls).1 ∈ xs ∧ (rNext L xs ls).2.1.length ≤ max L.length xs.length := by
  unfold rNext
  by_cases h : rDrop xs L = []
  · rw [if_pos h]
    have hl := shufOut_length xs ls
    cases hs : shufOut xs ls with
    | nil => rw [hs] at hl; exact absurd (List.eq_nil_of_length_eq_zero hl.symm) hx
    | cons y ys =>
      rw [hs] at hl
      refine ⟨shufOut_mem (xs := xs) (ls := ls) (by rw [hs]; simp), ?_⟩
      simp at hl
      simp
      omega
  · rw [if_neg h]
    cases hs : rDrop xs L with
    | nil => exact absurd hs h
    | cons y ys =>
      have hsuf : rDrop xs L <:+ L := List.dropWhile_suffix _
      have hlen := hsuf.length_le
      rw [hs] at hlen
      refine ⟨?_, ?_⟩
      · have hd := List.head_dropWhile_not (fun n => !decide (n ∈ xs)) (show L.dropWhile (fun n => !decide (n ∈ xs)) ≠ [] from h)
        have : (rDrop xs L).head h = y := by simp [hs]
        unfold rDrop at this
        rw [this] at hd
        simpa using hd
      · simp at hlen
        simp
        omega

end Go.Proofs.YtaaaiggbnkeblaaGreatDoor
