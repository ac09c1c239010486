/-
  TopKnown, plain: a group of detectors.
  TopKnown: Know, by what take does.
  TopKnown: detect.New at any node of six.
  TopKnown: the group is made: one detector more, one node more that it knows.
-/
import Derived.Test.YtaaaiggbnkeblaaGreatDoorMKnM
import Derived.Test.YtaaaiggbnkeblaaGreatDoorMKnK
import Derived.Test.YtaaaiggbnkeblaaGreatDoorMKnG
import Derived.Test.YtaaaiggbnkeblaaGreatDoorMKnH
namespace Go.Proofs.YtaaaiggbnkeblaaGreatDoor
set_option linter.unusedSimpArgs false
set_option linter.unusedVariables false
open Go.RowKit

def KS.blocks (K : KS) : List Nat := [K.d, K.r, K.b]
theorem KS.At.blockLt {K : KS} {w : World} {G : List Nat} {n q : Nat} (h : K.At w G n) (hq : q ∈ K.blocks) : q ∈ G ∧ q < w.heap.size := by
  have hg : q ∈ G := by
    simp only [KS.blocks, List.mem_cons, List.not_mem_nil, or_false] at hq
    rcases hq with rfl | rfl | rfl
    · exact h.inG.1
    · exact h.inG.2.1
    · exact h.inG.2.2
  exact ⟨hg, h.lo q hg⟩
theorem KS.At.keep {K : KS} {w w' : World} {G S : List Nat} {n : Nat} (h : K.At w G n) (hm : Mod S w w') (hS : ∀ s ∈ S, s ∈ G) (hb : ∀ q ∈ K.blocks, q ∉ S) : K.At w' G n :=
  h.mod hm hS (hb _ (by simp [KS.blocks])) (hb _ (by simp [KS.blocks])) (hb _ (by simp [KS.blocks]))

theorem RoundO.moreS {G G' S : List Nat} {w w' : World} {r : Nat} {L : List Int} (h : RoundO G w r L) (hm : Mod S w w') (hr : r ∉ S) (hS : ∀ s ∈ S, s ∈ G) (hG : ∀ g ∈ G', g ∈ G ∨ w.heap.size ≤ g) : RoundO G' w' r L := by
  obtain ⟨a, c, h1, h2, h3, h4, h5, h6, h7⟩ := h
  refine ⟨a, c, (hm.cell h6 hr).trans h1, (hm.frozen h6 hr).trans h2, h3, h4, h5, Nat.lt_of_lt_of_le h6 hm.size, fun hne => ?_⟩
  obtain ⟨g, off, ha, hg, hlt, hc⟩ := h7 hne
  refine ⟨g, off, ha, fun hs => ?_, Nat.lt_of_lt_of_le hlt hm.size, fun j x hj => (hm.cell hlt (fun hs => hg (hS _ hs))).trans (hc j x hj)⟩
  rcases hG g hs with h | h
  · exact hg h
  · omega
theorem KS.At.moreS {K : KS} {w w' : World} {G G' S : List Nat} {n : Nat} (h : K.At w G n) (hm : Mod S w w') (hS : ∀ s ∈ S, s ∈ G) (hb : ∀ q ∈ K.blocks, q ∉ S) (hG : ∀ g ∈ G', g ∈ G ∨ w.heap.size ≤ g) (hin : ∀ g ∈ G, g ∈ G') (hlo : ∀ g ∈ G', g < w'.heap.size) : K.At w' G' n :=
  have h' := h.keep hm hS hb
  ⟨h'.roll, h.left.moreS hm (hb _ (by simp [KS.blocks])) hS hG, h'.me, h'.rum, h'.dou, h'.wat, h'.err, h'.seq, h'.now, h'.gone, h'.free, h'.calm, h'.q, h'.len, h'.ne, ⟨hin _ h.inG.1, hin _ h.inG.2.1, hin _ h.inG.2.2⟩, hlo⟩

/-- So many detectors that know all of n. -/
structure Grp (w : World) (G : List Nat) (n m : Nat) (ks : Nat → KS) : Prop where
  det : ∀ i, i < m → (ks i).At w G n
  me : ∀ i, i < m → (ks i).me = i
  has : ∀ i, i < m → (ks i).has = 2 ^ n - 1
  apart : ∀ i j, i < m → j < m → i ≠ j → ∀ q, q ∈ (ks i).blocks → q ∉ (ks j).blocks
theorem Grp.keep {w w' : World} {G S : List Nat} {n m : Nat} {ks : Nat → KS} (h : Grp w G n m ks) (hm : Mod S w w') (hS : ∀ s ∈ S, s ∈ G) (hb : ∀ i, i < m → ∀ q ∈ (ks i).blocks, q ∉ S) : Grp w' G n m ks :=
  ⟨fun i hi => (h.det i hi).keep hm hS (hb i hi), h.me, h.has, h.apart⟩
theorem Grp.same {w w' : World} {G : List Nat} {n m : Nat} {ks : Nat → KS} (h : Grp w G n m ks) (hm : Mod [] w w') : Grp w' G n m ks := h.keep hm (by simp) (by simp)
theorem Grp.more {w w' : World} {G G' : List Nat} {n m : Nat} {ks : Nat → KS} (h : Grp w G n m ks) (hm : Mod [] w w') (hG : ∀ g ∈ G', g ∈ G ∨ w.heap.size ≤ g) (hin : ∀ g ∈ G, g ∈ G') (hlo : ∀ g ∈ G', g < w'.heap.size) : Grp w' G' n m ks :=
  ⟨fun i hi => (h.det i hi).more hm hG hin hlo, h.me, h.has, h.apart⟩
theorem Grp.moreS {w w' : World} {G G' S : List Nat} {n m : Nat} {ks : Nat → KS} (h : Grp w G n m ks) (hm : Mod S w w') (hS : ∀ s ∈ S, s ∈ G) (hb : ∀ i, i < m → ∀ q ∈ (ks i).blocks, q ∉ S) (hG : ∀ g ∈ G', g ∈ G ∨ w.heap.size ≤ g) (hin : ∀ g ∈ G, g ∈ G') (hlo : ∀ g ∈ G', g < w'.heap.size) : Grp w' G' n m ks :=
  ⟨fun i hi => (h.det i hi).moreS hm hS (hb i hi) hG hin hlo, h.me, h.has, h.apart⟩
theorem Grp.step {w w' : World} {G S : List Nat} {n m i : Nat} {ks : Nat → KS} (h : Grp w G n m ks) (hm : Mod S w w') (hi : i < m) (K' : KS) (hK : K'.At w' G n) (hs : K'.d = (ks i).d ∧ K'.r = (ks i).r ∧ K'.b = (ks i).b ∧ K'.me = (ks i).me ∧ K'.has = (ks i).has) (hSG : ∀ s ∈ S, s ∈ G)
    (hSo : ∀ j, j < m → j ≠ i → ∀ q ∈ (ks j).blocks, q ∉ S) : Grp w' G n m (fun j => if j = i then K' else ks j) := by
  have hbl : K'.blocks = (ks i).blocks := by simp [KS.blocks, hs.1, hs.2.1, hs.2.2.1]
  refine ⟨fun j hj => ?_, fun j hj => ?_, fun j hj => ?_, fun a b ha hb hab => ?_⟩
  · by_cases e : j = i
    · simp only [e, if_true]; exact hK
    · simp only [e, if_false]; exact (h.det j hj).keep hm hSG (hSo j hj e)
  · by_cases e : j = i
    · simp only [e, if_true]; rw [hs.2.2.2.1]; exact h.me i hi
    · simp only [e, if_false]; exact h.me j hj
  · by_cases e : j = i
    · simp only [e, if_true]; rw [hs.2.2.2.2]; exact h.has i hi
    · simp only [e, if_false]; exact h.has j hj
  · have hba : (if a = i then K' else ks a).blocks = (ks a).blocks := by
      by_cases e : a = i
      · simp only [e, if_true]; exact hbl
      · simp only [e, if_false]
    have hbb : (if b = i then K' else ks b).blocks = (ks b).blocks := by
      by_cases e : b = i
      · simp only [e, if_true]; exact hbl
      · simp only [e, if_false]
    show ∀ q, q ∈ (if a = i then K' else ks a).blocks → q ∉ (if b = i then K' else ks b).blocks
    rw [hba, hbb]
    exact h.apart a b ha hb hab
/-- One more. -/
theorem Grp.add {w : World} {G : List Nat} {n m : Nat} {ks : Nat → KS} (h : Grp w G n m ks) (K : KS) (hK : K.At w G n) (hme : K.me = m) (hhas : K.has = 2 ^ n - 1) (ha : ∀ j, j < m → ∀ q ∈ K.blocks, q ∉ (ks j).blocks) : Grp w G n (m + 1) (fun j => if j = m then K else ks j) := by
  refine ⟨fun j hj => ?_, fun j hj => ?_, fun j hj => ?_, fun a b ha' hb' hab => ?_⟩
  · by_cases e : j = m
    · simp only [e, if_true]; exact hK
    · simp only [e, if_false]; exact h.det j (by omega)
  · by_cases e : j = m
    · simp only [e, if_true]; exact hme
    · simp only [e, if_false]; exact h.me j (by omega)
  · by_cases e : j = m
    · simp only [e, if_true]; exact hhas
    · simp only [e, if_false]; exact h.has j (by omega)
  · intro q
    by_cases e : a = m
    · have e2 : ¬ b = m := fun e2 => hab (by omega)
      simp only [e, e2, if_true, if_false]
      exact fun hq => ha b (by omega) q hq
    · by_cases e2 : b = m
      · simp only [e, e2, if_true, if_false]
        exact fun hq hq2 => ha a (by omega) q hq2 hq
      · simp only [e, e2, if_false]
        exact h.apart a b (by omega) (by omega) hab q

/-- The detectors' own slice. -/
def Ptrs (w : World) (v : Value) (ps : List Nat) : Prop := w.ownsRow 0 51 1 v ps.length (ps.map fun d => .pointer (some ⟨d, 0, none⟩))
theorem Ptrs.at {w : World} {v : Value} {ps : List Nat} {i d : Nat} (h : Ptrs w v ps) (hi : ps[i]? = some d) : ∃ g c, v = .slice (some ⟨g, 0, none⟩) ps.length c ∧ w.cell? ⟨g, i, none⟩ = some (.pointer (some ⟨d, 0, none⟩)) := by
  have hl := (List.getElem?_eq_some_iff.1 hi).1
  obtain ⟨g, c, rfl, _, _⟩ := h.form (by omega)
  exact ⟨g, c, rfl, ownsRow_cells h i _ (by rw [List.getElem?_map, hi]; rfl)⟩
theorem infoPtr : ∃ i, Tryz.prog.info? 51 = some i ∧ i.zero = some (.pointer none) ∧ i.size = 1 ∧ i.bytes ≤ 64 := by
  have h : (Tryz.prog.info? 51).map (fun i => (i.zero, i.size, decide (i.bytes ≤ 64))) = some (some (.pointer none), 1, true) := by kernel_rfl
  cases hi : Tryz.prog.info? 51 with
  | none => rw [hi] at h; cases h
  | some i =>
    rw [hi] at h
    simp at h
    exact ⟨i, rfl, h.1, h.2.1, h.2.2⟩
theorem ptrs_push (w : World) (v : Value) (ps : List Nat) (g d : Nat) (h : Ptrs w v ps) (hl : ps.length ≤ 1000) (hg : w.heap[g]? = some (.cells #[.pointer (some ⟨d, 0, none⟩)] 51 (0, 0))) :
    ∃ v' w', (Builtin.append_ #[50, 50] 50 #[v, .slice (some ⟨g, 0, none⟩) 1 1]).run Tryz.prog w = .ok v' w' ∧ Ptrs w' v' (ps ++ [d]) ∧ w.grownBy w' v.ownBlock ∧ (v'.ownBlock = v.ownBlock ∨ v'.ownBlock = some w.heap.size) := by
  obtain ⟨i, hi, hz, hs, hb⟩ := infoPtr
  have hby : (ps.length + 1) * i.bytes ≤ 140737488355328 := by
    have := Nat.mul_le_mul (show ps.length + 1 ≤ 1001 by omega) hb
    omega
  have hnews : ∀ j x, ([.pointer (some ⟨d, 0, none⟩)] : List Value)[j]? = some x → w.cell? ((⟨g, 0, none⟩ : Addr).add j) = some x := World.news_of_block hg
  obtain ⟨v', w', hr, h2, h3, _, h5⟩ := run_append_own_at (P := Tryz.prog) w 0 50 50 51 i _ 1 i.bytes Tryz.underlying50 hi hz hs rfl rfl (by decide) v ps.length _ h ⟨g, 0, none⟩ 1 1 [.pointer (some ⟨d, 0, none⟩)] rfl hnews (by simp [Value.oneCell']) (by unfold maxLen; omega) hby (Nat.zero_le _)
  refine ⟨v', w', hr, ?_, h3, h5⟩
  unfold Ptrs
  rw [List.length_append, List.map_append]
  exact h2

end Go.Proofs.YtaaaiggbnkeblaaGreatDoor

namespace Go.Proofs.YtaaaiggbnkeblaaGreatDoor
set_option linter.unusedSimpArgs false
set_option linter.unusedVariables false
open Go.RowKit

set_option maxRecDepth 100000 in
set_option maxHeartbeats 4000000 in
theorem know_by {K : KS} {w : World} {G : List Nat} {n k : Nat} (l : Value) (R : World → Prop) (h : K.At w G n)
    (hT : ∀ w', Mod [] w w' → Calls Tryz.prog 48 #[.pointer (some ⟨K.d, 0, none⟩), .agg #[.int .i64 k, .int .u64 0, .int .i64 0], .int .i64 K.me, l] w' fun e w'' => e = .returned (.int .i64 0) ∧ R w'') :
    Calls Tryz.prog 12 #[.pointer (some ⟨K.d, 0, none⟩), .agg #[.int .i64 k, .int .u64 0, .int .i64 0], l] w fun e w' => e = .returned (.int .i64 0) ∧ R w' := by
  have c0 := h.me
  have hdl := h.lt
  obtain ⟨d, hd⟩ : ∃ d, K.d = d := ⟨_, rfl⟩
  obtain ⟨me, hme⟩ : ∃ me, K.me = me := ⟨_, rfl⟩
  rw [hd] at hdl
  rw [hd, hme] at c0 hT
  rw [hd]
  have HT := Lib.hid hT
  clear hT h hd hme
  go_enter Tryz.func12, Tryz.ntmps12
  go_wp2_with fail
  have HMw := Lib.hid ((Mod.refl [] w).alloc (.cells #[.int .i64 k, .int .u64 0, .int .i64 0] 55))
  have HU := Lib.hid (heap_new w (.cells #[.int .i64 k, .int .u64 0, .int .i64 0] 55))
  generalize hB : w.heap.size = B at HU ⊢
  generalize w.alloc (.cells #[.int .i64 k, .int .u64 0, .int .i64 0] 55) = W0 at HMw HU ⊢
  have c1 := HMw.out.at c0 (by simp)
  have uc := upK_of HU.out
  unfold UpK at uc
  clear c0
  go_region_with (go_at_call 48; refine (HT.out _ HMw.out.drew).mono ?_; rintro e w7 ⟨rfl, hR7⟩; have HR7 := Lib.hid hR7; clear hR7)
  all_goals
    go_wp2_with fail
    go_ret
    exact ⟨rfl, HR7.out⟩

end Go.Proofs.YtaaaiggbnkeblaaGreatDoor

namespace Go.Proofs.YtaaaiggbnkeblaaGreatDoor
set_option linter.unusedSimpArgs false
set_option linter.unusedVariables false
open Go.RowKit

def oneOk : Bool := (List.range 6).all fun me => (List.range 6).all fun k => (bits .and .u64 ((2 ^ me : Nat) : Int) (2 ^ k) != 0) == (k == me)
theorem oneOk_is : oneOk = true := by kernel_rfl
theorem one_bits (me k : Nat) (hme : me < 6) (hk : k < 6) : (bits .and .u64 ((2 ^ me : Nat) : Int) (2 ^ k) != 0) = (k == me) := by
  have h0 := List.all_eq_true.1 oneOk_is me (List.mem_range.2 hme)
  have h1 := List.all_eq_true.1 h0 k (List.mem_range.2 hk)
  simpa using h1
theorem pow_cast (me : Nat) : ((2 ^ me : Nat) : Int) = (2 : Int) ^ me := by simp

def DetNewK (me n : Nat) (w : World) (e : Ending) (w' : World) : Prop :=
  ∃ K : KS, e = .returned (.pointer (some ⟨K.d, 0, none⟩)) ∧ K.me = me ∧ K.has = 2 ^ me ∧ K.L = [] ∧ K.W = .slice none 0 0 ∧ (∀ G, K.d ∈ G → K.r ∈ G → K.b ∈ G → (∀ g ∈ G, g < w'.heap.size) → K.At w' G n) ∧
    (w.heap.size ≤ K.d ∧ w.heap.size ≤ K.r ∧ w.heap.size ≤ K.b) ∧ (K.d < w'.heap.size ∧ K.r < w'.heap.size ∧ K.b < w'.heap.size) ∧ Mod [] w w'

set_option maxRecDepth 100000 in
set_option maxHeartbeats 4000000 in
theorem det_newk (me n : Nat) (hn : n ≤ 6) (hme : me < n) (w : World) : Calls Tryz.prog 11 #[.int .i64 me] w (DetNewK me n w) := by
  have hpn : ∀ (a : Addr) (w : World), (binOp .eql 66 (.pointer (some a)) (.pointer none)).run Tryz.prog w = .ok (.bool false) w := fun a w => by kernel_rfl
  have HME := Lib.hid (And.intro hn hme)
  go_enter Tryz.func11, Tryz.ntmps11
  go_wp2_with fail
  refine (roll_new me (by omega) _).mono ?_
  rintro e w1 ⟨rfl, hR, hM⟩
  have HR := Lib.hid hR
  have HM := Lib.hid hM
  clear hR hM
  go_wp2_with fail
  obtain ⟨d, hd⟩ : ∃ d, w1.heap.size = d := ⟨_, rfl⟩
  obtain ⟨r, hr⟩ : ∃ r, w.heap.size = r := ⟨_, rfl⟩
  obtain ⟨W, hW⟩ : ∃ W, w1.alloc (.cells #[.pointer (some ⟨r, 0, none⟩), .slice none 0 0, .int .i64 me, .map none, .map none, .slice none 0 0, .slice none 0 0, .int .u64 0, .int .u64 0, .bool false] 79) = W := ⟨_, rfl⟩
  have hh : W.heap[d]? = some (.cells #[.pointer (some ⟨r, 0, none⟩), .slice none 0 0, .int .i64 me, .map none, .map none, .slice none 0 0, .slice none 0 0, .int .u64 0, .int .u64 0, .bool false] 79 (0, 0)) := by rw [← hW, ← hd]; exact heap_new _ _
  have hrd : r < d := by rw [← hd, ← hr]; exact HR.out.lt
  have hRW : RollAt W r me (rollPut (fun _ => (0, 0, 0)) me (me, 0, 0)) (2 ^ me) := by rw [← hW, ← hr]; exact HR.out.mod ((Mod.refl [] _).alloc _) (by simp)
  have hMW : Mod [] w W := by rw [← hW]; exact HM.out.alloc _
  have hq := cell_in hh (j := 3) rfl
  have hqf := free_in (j := 3) hh
  have H := Lib.hid (And.intro hh (And.intro hRW hMW))
  have HRD := Lib.hid (And.intro hrd hr)
  try rw [hr]
  try rw [hd]
  try rw [hW]
  clear hr hd hW hh hRW hMW hrd HR HM hpn hn hme
  have hmine := fun w' (hm : Mod [] W w') => mine_any r me (by have := HME.out; omega) (rollPut (fun _ => (0, 0, 0)) me (me, 0, 0)) (2 ^ me) w' (H.out.2.1.mod hm (by simp))
  rw [show rollPut (fun _ => (0, 0, 0)) me ((me : Int), 0, 0) me = ((me : Int), 0, 0) by simp [rollPut]] at hmine
  have HMI := Lib.hid hmine
  clear hmine
  go_region_with (first | (go_at_call 47; refine (HMI.out _ (Mod.refl [] _).drew).mono ?_; rintro e w2 ⟨rfl, hM2⟩; have HM2 := Lib.hid ((Mod.refl [] _).drew.trans hM2); clear hM2) | (go_at_call 46; refine (qput_none d 3 ((me : Int), 0, 0) (by have := HME.out; simp; omega) (by simp) _ (HM2.out.at hq (by simp)) ((HM2.out.frozen (block_lt_of_cell hq) (by simp)).trans hqf)).mono ?_; rintro e w3 ⟨rfl, hb, hoth, hfr, hM3⟩; have H3 := Lib.hid (And.intro hb (And.intro hoth (And.intro hfr hM3))); clear hb hoth hfr hM3))
  go_wp2
  go_ret
  obtain ⟨hh, hRW, hMW⟩ := H.out
  obtain ⟨⟨b, hb1, hb2, hb3⟩, hoth, hfr, hM3⟩ := H3.out
  have hdl : d < W.heap.size := (Array.getElem?_eq_some_iff.1 hh).1
  have hc : ∀ j v, j ≠ 3 → (#[Value.pointer (some ⟨r, 0, none⟩), .slice none 0 0, .int .i64 me, .map none, .map none, .slice none 0 0, .slice none 0 0, .int .u64 0, .int .u64 0, .bool false] : Array Value)[j]? = some v → w3.cell? ⟨d, j, none⟩ = some v := fun j v hj hv =>
    (hoth j hj).trans (HM2.out.at (cell_in hh hv) (by simp))
  have hws : w.heap.size = r := HRD.out.2
  have hrd := HRD.out.1
  have hfree : ∀ j, w3.frozen? ⟨d, j, none⟩ = false := fun j => (hfr j).trans ((HM2.out.frozen (by exact hdl) (by simp)).trans (free_in hh))
  have hs2 := HM2.out.size
  have hs3 := hM3.size
  have hbl : b < w3.heap.size := (Array.getElem?_eq_some_iff.1 (show w3.heap[b]? = _ from hb2)).1
  refine ⟨⟨d, r, b, me, 2 ^ me, rollPut (fun _ => (0, 0, 0)) me (me, 0, 0), [], .slice none 0 0, 0, 0⟩, rfl, rfl, rfl, rfl, rfl, fun G h1 h2 h3 hlo => ?_, ⟨by show _ ≤ d; omega, by show _ ≤ r; omega, by show _ ≤ b; omega⟩, ⟨by show d < _; omega, by show r < _; omega, hbl⟩, ?_⟩
  · have hdr : d ≠ r := by omega
    have hdb : d ≠ b := by omega
    have hrb : r ≠ b := by omega
    refine ⟨hc 0 _ (by decide) rfl, ⟨none, 0, hc 1 _ (by decide) rfl, hfree 1, Nat.le_refl _, by simp [maxLen], fun _ => rfl, by show d < _; omega, fun h => absurd rfl h⟩, hc 2 _ (by decide) rfl, hb1, hc 4 _ (by decide) rfl, hc 5 _ (by decide) rfl, hc 6 _ (by decide) rfl, hc 7 _ (by decide) rfl, hc 8 _ (by decide) rfl, hc 9 _ (by decide) rfl, hfree, ⟨?_, ?_, ?_, ?_, fun k hk hbk => ?_⟩, QMap.one HME.out.1 HME.out.2 hb2, by simp, ⟨hdr, hdb, hrb⟩, ⟨h1, h2, h3⟩, hlo⟩
    · have := (hRW.mod HM2.out (by simp)).mod hM3 (by simp; omega)
      show RollAt w3 r me _ ((2 ^ me : Nat) : Int)
      rw [pow_cast]
      exact this
    · show 2 ^ me < 64
      have : me < 6 := by have := HME.out; omega
      exact Nat.lt_of_lt_of_le (Nat.pow_lt_pow_right (by decide) this) (by decide)
    · show me < 6
      have := HME.out; omega
    · have h6 : me < 6 := by have := HME.out; omega
      have := one_bits me me h6 h6
      show (bits .and .u64 ((2 ^ me : Nat) : Int) (2 ^ me) != 0) = true
      rw [this]
      simp
    · have h6 : me < 6 := by have := HME.out; omega
      have h1 := one_bits me k h6 hk
      have h2 : (bits .and .u64 ((2 ^ me : Nat) : Int) (2 ^ k) != 0) = true := hbk
      rw [h2] at h1
      have h3 : k = me := by simpa using h1.symm
      subst h3
      show rollPut (fun _ => (0, 0, 0)) k ((k : Int), 0, 0) k = _
      simp [rollPut]
  · exact (hMW.trans HM2.out).step hM3 (fun t ht => .inr (by simp at ht; omega))

end Go.Proofs.YtaaaiggbnkeblaaGreatDoor

namespace Go.Proofs.YtaaaiggbnkeblaaGreatDoor
set_option linter.unusedSimpArgs false
set_option linter.unusedVariables false
open Go.RowKit

/-- The detectors and their slice, all of it made since w0. -/
structure Base (w0 w : World) (G : List Nat) (n m : Nat) (ks : Nat → KS) (v : Value) : Prop where
  grp : Grp w G n m ks
  ptr : Ptrs w v ((List.range m).map fun j => (ks j).d)
  own : ∀ g, v.ownBlock = some g → g ∈ G ∧ ∀ j, j < m → g ∉ (ks j).blocks
  up : ∀ g ∈ G, w0.heap.size ≤ g
  mod : Mod [] w0 w
theorem Base.keep {w0 w w' : World} {G S : List Nat} {n m : Nat} {ks ks' : Nat → KS} {v : Value} (h : Base w0 w G n m ks v) (hm : Mod S w w') (hS : ∀ s ∈ S, s ∈ G ∧ v.ownBlock ≠ some s) (hg : Grp w' G n m ks') (hd : ∀ j, j < m → (ks' j).d = (ks j).d ∧ (ks' j).blocks = (ks j).blocks) : Base w0 w' G n m ks' v := by
  refine ⟨hg, ?_, fun g hv => ⟨(h.own g hv).1, fun j hj => by rw [(hd j hj).2]; exact (h.own g hv).2 j hj⟩, h.up, h.mod.step hm (fun t ht => .inr (h.up t (hS t ht).1))⟩
  have e : ((List.range m).map fun j => (ks' j).d) = (List.range m).map fun j => (ks j).d := List.map_congr_left fun j hj => (hd j (List.mem_range.1 hj)).1
  rw [e]
  exact ownsRow_mod h.ptr hm (fun b hb hs => (hS b hs).2 hb)
theorem Base.same {w0 w w' : World} {G : List Nat} {n m : Nat} {ks : Nat → KS} {v : Value} (h : Base w0 w G n m ks v) (hm : Mod [] w w') : Base w0 w' G n m ks v :=
  h.keep hm (by simp) (h.grp.same hm) (fun _ _ => ⟨rfl, rfl⟩)
theorem Base.more {w0 w w' : World} {G G' : List Nat} {n m : Nat} {ks : Nat → KS} {v : Value} (h : Base w0 w G n m ks v) (hm : Mod [] w w') (hG : ∀ g ∈ G', g ∈ G ∨ w.heap.size ≤ g) (hin : ∀ g ∈ G, g ∈ G') (hlo : ∀ g ∈ G', g < w'.heap.size) : Base w0 w' G' n m ks v := by
  have h' := h.same hm
  refine ⟨h.grp.more hm hG hin hlo, h'.ptr, fun g hg => ⟨hin g (h.own g hg).1, (h.own g hg).2⟩, fun g hg => ?_, h'.mod⟩
  rcases hG g hg with h1 | h1
  · exact h.up g h1
  · exact Nat.le_trans h.mod.size h1
theorem Base.lt {w0 w : World} {G : List Nat} {n m j q : Nat} {ks : Nat → KS} {v : Value} (h : Base w0 w G n m ks v) (hj : j < m) (hq : q ∈ (ks j).blocks) : q ∈ G ∧ q < w.heap.size := (h.grp.det j hj).blockLt hq
def Idle (ks : Nat → KS) (m : Nat) : Prop := ∀ j, j < m → ∃ a c, (ks j).W = .slice a 0 c

/-- One of them is learning who is there. -/
structure Know1 (w0 w : World) (G : List Nat) (n i k : Nat) (ks : Nat → KS) (K : KS) (v : Value) : Prop where
  base : Base w0 w G n i ks v
  idle : Idle ks i
  det : K.At w G n
  me : K.me = i
  has : K.has = hasAt i k
  len : K.L.length ≤ k
  wat : ∃ a c, K.W = .slice a 0 c
  off : ∀ j, j < i → ∀ q ∈ K.blocks, q ∉ (ks j).blocks
  offv : ∀ g, v.ownBlock = some g → g ∉ K.blocks
theorem know1_new {w0 w w' : World} {G : List Nat} {n i : Nat} {ks : Nat → KS} {v : Value} {e : Ending} (h : Base w0 w G n i ks v) (hI : Idle ks i) (hG : ∀ g ∈ G, g < w.heap.size) (hN : DetNewK i n w e w') : ∃ G' K, e = .returned (.pointer (some ⟨K.d, 0, none⟩)) ∧ Know1 w0 w' G' n i 0 ks K v ∧ ∀ g ∈ G', g < w'.heap.size := by
  obtain ⟨K, he, hme, hhas, hL, hW, hat, ⟨n1, n2, n3⟩, ⟨l1, l2, l3⟩, hm⟩ := hN
  have hlo : ∀ g ∈ K.d :: K.r :: K.b :: G, g < w'.heap.size := fun g hg => by
    simp only [List.mem_cons] at hg
    rcases hg with rfl | rfl | rfl | hg
    · exact l1
    · exact l2
    · exact l3
    · exact Nat.lt_of_lt_of_le (hG g hg) hm.size
  refine ⟨K.d :: K.r :: K.b :: G, K, he, ⟨h.more hm (fun g hg => ?_) (fun g hg => by simp [hg]) hlo, hI, hat _ (by simp) (by simp) (by simp) hlo, hme, ?_, by rw [hL]; simp, ⟨none, 0, hW⟩, fun j hj q hq hq2 => ?_, fun g hg hq => ?_⟩, hlo⟩
  · simp only [List.mem_cons] at hg
    rcases hg with rfl | rfl | rfl | hg
    · exact .inr n1
    · exact .inr n2
    · exact .inr n3
    · exact .inl hg
  · rw [hhas]
    simp [hasAt]
  · have := (h.lt hj hq2).2
    simp only [KS.blocks, List.mem_cons, List.not_mem_nil, or_false] at hq
    rcases hq with rfl | rfl | rfl <;> omega
  · have := (ownsRow_ge h.ptr g hg).2
    simp only [KS.blocks, List.mem_cons, List.not_mem_nil, or_false] at hq
    rcases hq with rfl | rfl | rfl <;> omega

theorem know1_know {w0 w w1 : World} {G : List Nat} {n i k : Nat} {ks : Nat → KS} {K : KS} {v : Value} {e : Ending} (h : Know1 w0 w G n i k ks K v) (ht : Tab w0) (hn : 2 ≤ n ∧ n ≤ 6) (hi : i < n) (hk : k < n) (hG : ∀ g ∈ G, g < w.heap.size) (hN : NewPost w [] e w1) :
    ∃ dl, e = .returned (.pointer (some ⟨dl, 0, none⟩)) ∧ Calls Tryz.prog 12 #[.pointer (some ⟨K.d, 0, none⟩), .agg #[.int .i64 k, .int .u64 0, .int .i64 0], .pointer (some ⟨dl, 0, none⟩)] w1 fun e w' => e = .returned (.int .i64 0) ∧ ∃ G' K', K'.d = K.d ∧ Know1 w0 w' G' n i (k + 1) ks K' v ∧ ∀ g ∈ G', g < w'.heap.size := by
  obtain ⟨dl, gl, rfl, hd, hg, hL, hm⟩ := hN
  have hdl : dl < w1.heap.size := by
    obtain ⟨_, _, _, h1, _⟩ := hL
    exact block_lt_of_cell h1
  have hlo : ∀ g ∈ dl :: G, g < w1.heap.size := fun g hg => by
    simp only [List.mem_cons] at hg
    rcases hg with rfl | hg
    · exact hdl
    · exact Nat.lt_of_lt_of_le (hG g hg) hm.size
  have hfr : ∀ g ∈ dl :: G, g ∈ G ∨ w.heap.size ≤ g := fun g hg => by
    simp only [List.mem_cons] at hg
    rcases hg with rfl | hg
    · exact .inr hd
    · exact .inl hg
  have hb := h.base.more hm hfr (fun g hg => by simp [hg]) hlo
  have hK := h.det.more hm hfr (fun g hg => by simp [hg]) hlo
  obtain ⟨g1, g2, g3, g4⟩ := has_grow i k (by omega) (by omega)
  have hlt := fun q (hq : q ∈ K.blocks) => (h.det.blockLt hq).2
  have hd1 := hlt K.d (by simp [KS.blocks])
  have hd2 := hlt K.r (by simp [KS.blocks])
  have hd3 := hlt K.b (by simp [KS.blocks])
  refine ⟨dl, rfl, know_by _ (fun w' => ∃ G' K', K'.d = K.d ∧ Know1 w0 w' G' n i (k + 1) ks K' v ∧ ∀ g ∈ G', g < w'.heap.size) hK fun w2 hm2 => ?_⟩
  have hT2 : Tab w2 := ht.mod ((hb.same hm2).mod) (by simp)
  by_cases hik : i = k
  · refine (ktake_old _ _ (hK.same hm2) hT2 (by omega) ?_).mono fun e w3 ⟨he, hm3⟩ => ⟨he, dl :: G, K, rfl, ⟨(hb.same hm2).same hm3, h.idle, (hK.same hm2).same hm3, h.me, h.has.trans (g4 hik), Nat.le_succ_of_le h.len, h.wat, h.off, h.offv⟩, fun g hg => Nat.lt_of_lt_of_le (hlo g hg) (Nat.le_trans hm2.size hm3.size)⟩
    unfold KS.knows
    rw [h.has, g2]
    simpa using hik
  · have hkn : ¬ K.knows k := by
      unfold KS.knows
      rw [h.has, g2]
      simpa using hik
    refine (ktake_new _ (hK.same hm2) hT2 hn.2 hk hkn (by have := h.len; omega) (hL.mod hm2 (by simp) (by simp)) (by simp) ⟨⟨by omega, by omega, by omega⟩, by omega, by omega, by omega⟩).mono fun e w3 ⟨he, L', hl, hA, hm3⟩ => ?_
    have hS : ∀ s ∈ [K.r, K.b, dl, K.d], s ∈ dl :: G := fun s hs => by
      simp only [List.mem_cons, List.not_mem_nil, or_false] at hs ⊢
      rcases hs with rfl | rfl | rfl | rfl
      · exact .inr h.det.inG.2.1
      · exact .inr h.det.inG.2.2
      · exact .inl rfl
      · exact .inr h.det.inG.1
    have hkeep : ∀ j, j < i → ∀ q ∈ (ks j).blocks, q ∉ [K.r, K.b, dl, K.d] := fun j hj q hq hs => by
      have := (h.base.lt hj hq).2
      simp only [List.mem_cons, List.not_mem_nil, or_false] at hs
      rcases hs with rfl | rfl | rfl | rfl
      · exact h.off j hj _ (by simp [KS.blocks]) hq
      · exact h.off j hj _ (by simp [KS.blocks]) hq
      · omega
      · exact h.off j hj _ (by simp [KS.blocks]) hq
    have hv : ∀ s ∈ [K.r, K.b, dl, K.d], v.ownBlock ≠ some s := fun s hs hvs => by
      have h1 := h.offv s hvs
      have h2 := (ownsRow_ge h.base.ptr s hvs).2
      simp only [List.mem_cons, List.not_mem_nil, or_false] at hs
      rcases hs with rfl | rfl | rfl | rfl
      · exact h1 (by simp [KS.blocks])
      · exact h1 (by simp [KS.blocks])
      · omega
      · exact h1 (by simp [KS.blocks])
    refine ⟨he, dl :: G, (K.learn k).lefts L', rfl, ⟨(hb.same hm2).keep hm3 (fun s hs => ⟨hS s hs, hv s hs⟩) ((hb.same hm2).grp.keep hm3 hS hkeep) (fun _ _ => ⟨rfl, rfl⟩), h.idle, hA, h.me, ?_, ?_, h.wat, h.off, h.offv⟩, fun g hg => Nat.lt_of_lt_of_le (hlo g hg) (Nat.le_trans hm2.size hm3.size)⟩
    · show K.has ||| 2 ^ k = _
      rw [h.has, g3]
    · show L'.length ≤ _
      have := h.len
      omega

/-- It has learnt: it is one of the group. -/
theorem know1_done {w0 w : World} {G : List Nat} {n i : Nat} {ks : Nat → KS} {K : KS} {v : Value} (h : Know1 w0 w G n i n ks K v) (hG : ∀ g ∈ G, g < w.heap.size) (hn : 2 ≤ n ∧ n ≤ 6) (hi : i < n) {g : Nat} (hg : w.heap[g]? = some (.cells #[.pointer (some ⟨K.d, 0, none⟩)] 51 (0, 0))) :
    ∃ v' w' G' ks', (Builtin.append_ #[50, 50] 50 #[v, .slice (some ⟨g, 0, none⟩) 1 1]).run Tryz.prog w = .ok v' w' ∧ Base w0 w' G' n (i + 1) ks' v' ∧ Idle ks' (i + 1) ∧ ∀ g ∈ G', g < w'.heap.size := by
  have hpl : ((List.range i).map fun j => (ks j).d).length = i := by simp
  obtain ⟨v', w', hr, h2, h3, h5⟩ := ptrs_push w v _ g K.d h.base.ptr (by rw [hpl]; omega) hg
  have hm : Mod v.ownBlock.toList w w' := (Mod.refl [] w).grownOwn h3
  have hv : ∀ s ∈ v.ownBlock.toList, v.ownBlock = some s := fun s hs => by rwa [Option.mem_toList] at hs
  have hS : ∀ s ∈ v.ownBlock.toList, s ∈ G := fun s hs => (h.base.own s (hv s hs)).1
  have hge' := ownsRow_ge h2
  obtain ⟨G', hG'⟩ : ∃ G', G' = v'.ownBlock.toList ++ G := ⟨_, rfl⟩
  have hfr : ∀ q ∈ G', q ∈ G ∨ w.heap.size ≤ q := fun q hq => by
    rw [hG', List.mem_append, Option.mem_toList] at hq
    rcases hq with hq | hq
    · rcases h5 with e | e
      · rw [e] at hq
        exact .inl (h.base.own q hq).1
      · rw [e] at hq
        cases hq
        exact .inr (Nat.le_refl _)
    · exact .inl hq
  have hin : ∀ q ∈ G, q ∈ G' := fun q hq => by rw [hG']; exact List.mem_append_right _ hq
  have hlo : ∀ q ∈ G', q < w'.heap.size := fun q hq => by
    rw [hG', List.mem_append, Option.mem_toList] at hq
    rcases hq with hq | hq
    · exact (hge' q hq).2
    · exact Nat.lt_of_lt_of_le (hG q hq) hm.size
  have hbj : ∀ j, j < i → ∀ q ∈ (ks j).blocks, q ∉ v.ownBlock.toList := fun j hj q hq hs => (h.base.own q (hv q hs)).2 j hj hq
  have hbK : ∀ q ∈ K.blocks, q ∉ v.ownBlock.toList := fun q hq hs => h.offv q (hv q hs) hq
  have hfull : hasAt i n = 2 ^ n - 1 := (full_facts n i hn hi).2.2.1
  have hgrp := (h.base.grp.moreS hm hS hbj hfr hin hlo).add K (h.det.moreS hm hS hbK hfr hin hlo) h.me (h.has.trans hfull) (fun j hj q hq => h.off j hj q hq)
  refine ⟨v', w', G', _, hr, ⟨hgrp, ?_, fun q hq => ⟨?_, fun j hj => ?_⟩, fun q hq => ?_, h.base.mod.step hm (fun t ht => .inr (h.base.up t (hS t ht)))⟩, fun j hj => ?_, hlo⟩
  · have e1 : ((List.range i).map fun j => (if j = i then K else ks j).d) = (List.range i).map fun j => (ks j).d := List.map_congr_left fun j hj => by
      have := List.mem_range.1 hj
      simp only [show ¬ j = i by omega, if_false]
    have e : ((List.range (i + 1)).map fun j => (if j = i then K else ks j).d) = ((List.range i).map fun j => (ks j).d) ++ [K.d] := by
      rw [List.range_succ, List.map_append, e1]
      simp only [List.map_cons, List.map_nil, if_true]
    rw [e]
    exact h2
  · rw [hG', List.mem_append, Option.mem_toList]
    exact .inl hq
  · have key : q ∉ K.blocks ∧ ∀ j, j < i → q ∉ (ks j).blocks := by
      rcases h5 with e | e
      · rw [e] at hq
        exact ⟨h.offv q hq, (h.base.own q hq).2⟩
      · rw [e] at hq
        cases hq
        exact ⟨fun hq => by have := (h.det.blockLt hq).2; omega, fun j hj hq => by have := (h.base.lt hj hq).2; omega⟩
    by_cases e : j = i
    · simp only [e, if_true]; exact key.1
    · simp only [e, if_false]; exact key.2 j (by omega)
  · rcases hfr q hq with h1 | h1
    · exact h.base.up q h1
    · exact Nat.le_trans h.base.mod.size h1
  · by_cases e : j = i
    · simp only [e, if_true]; exact h.wat
    · simp only [e, if_false]; exact h.idle j (by omega)

end Go.Proofs.YtaaaiggbnkeblaaGreatDoor
