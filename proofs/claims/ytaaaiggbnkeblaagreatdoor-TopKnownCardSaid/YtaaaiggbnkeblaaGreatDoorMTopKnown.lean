/-
  TopKnown: the group in its rounds: a ping, its answer, what becomes of it.
  The walk of TopKnown.
-/
import Derived.Test.YtaaaiggbnkeblaaGreatDoorMKnX
import Derived.Test.YtaaaiggbnkeblaaGreatDoorMKnT
import Derived.Test.YtaaaiggbnkeblaaGreatDoorMKnV
import Derived.Test.YtaaaiggbnkeblaaGreatDoorMKnN
import Derived.Test.YtaaaiggbnkeblaaGreatDoorMKnR
import Derived.Test.YtaaaiggbnkeblaaGreatDoorMTopSh
import Derived.Test.YtaaaiggbnkeblaaGreatDoorMLawK
namespace Go.Proofs.YtaaaiggbnkeblaaGreatDoor
set_option linter.unusedSimpArgs false
set_option linter.unusedVariables false
open Go.RowKit

theorem Grp.stepS {w w' : World} {G G' S : List Nat} {n m i : Nat} {ks : Nat → KS} (h : Grp w G n m ks) (hm : Mod S w w') (hi : i < m) (K' : KS) (hK : K'.At w' G' n) (hs : K'.d = (ks i).d ∧ K'.r = (ks i).r ∧ K'.b = (ks i).b ∧ K'.me = (ks i).me ∧ K'.has = (ks i).has) (hSG : ∀ s ∈ S, s ∈ G)
    (hSo : ∀ j, j < m → j ≠ i → ∀ q ∈ (ks j).blocks, q ∉ S) (hG : ∀ g ∈ G', g ∈ G ∨ w.heap.size ≤ g) (hin : ∀ g ∈ G, g ∈ G') (hlo : ∀ g ∈ G', g < w'.heap.size) : Grp w' G' n m (fun j => if j = i then K' else ks j) := by
  have hbl : K'.blocks = (ks i).blocks := by simp [KS.blocks, hs.1, hs.2.1, hs.2.2.1]
  refine ⟨fun j hj => ?_, fun j hj => ?_, fun j hj => ?_, fun a b ha hb hab => ?_⟩
  · by_cases e : j = i
    · simp only [e, if_true]; exact hK
    · simp only [e, if_false]; exact (h.det j hj).moreS hm hSG (hSo j hj e) hG hin hlo
  · by_cases e : j = i
    · simp only [e, if_true]; rw [hs.2.2.2.1]; exact h.me i hi
    · simp only [e, if_false]; exact h.me j hj
  · by_cases e : j = i
    · simp only [e, if_true]; rw [hs.2.2.2.2]; exact h.has i hi
    · simp only [e, if_false]; exact h.has j hj
  · have hba : (if a = i then K' else ks a).blocks = (ks a).blocks := by
      by_cases e : a = i
      · simp only [e, if_true]; exact hbl
      · simp only [e, if_false]
    have hbb : (if b = i then K' else ks b).blocks = (ks b).blocks := by
      by_cases e : b = i
      · simp only [e, if_true]; exact hbl
      · simp only [e, if_false]
    show ∀ q, q ∈ (if a = i then K' else ks a).blocks → q ∉ (if b = i then K' else ks b).blocks
    rw [hba, hbb]
    exact h.apart a b ha hb hab

/-- The whole group, and the lots that all draw from. -/
structure Full (w0 w : World) (G : List Nat) (n dl gl : Nat) (ks : Nat → KS) (v : Value) : Prop where
  base : Base w0 w G n n ks v
  lots : ∃ ls, LotsAt w dl gl ls
  dlG : dl ∈ G
  off : ∀ j, j < n → ∀ q ∈ (ks j).blocks, q ≠ dl ∧ q ≠ gl
  offv : v.ownBlock ≠ some dl
theorem Full.same {w0 w w' : World} {G : List Nat} {n dl gl : Nat} {ks : Nat → KS} {v : Value} (h : Full w0 w G n dl gl ks v) (hm : Mod [] w w') : Full w0 w' G n dl gl ks v := by
  obtain ⟨ls, hl⟩ := h.lots
  exact ⟨h.base.same hm, ⟨ls, hl.mod hm (by simp) (by simp)⟩, h.dlG, h.off, h.offv⟩
theorem Full.apart6 {w0 w : World} {G : List Nat} {n dl gl : Nat} {ks : Nat → KS} {v : Value} (h : Full w0 w G n dl gl ks v) {i : Nat} (hi : i < n) : ((ks i).d ≠ dl ∧ (ks i).r ≠ dl ∧ (ks i).b ≠ dl) ∧ (ks i).d ≠ gl ∧ (ks i).r ≠ gl ∧ (ks i).b ≠ gl :=
  have h1 := h.off i hi (ks i).d (by simp [KS.blocks])
  have h2 := h.off i hi (ks i).r (by simp [KS.blocks])
  have h3 := h.off i hi (ks i).b (by simp [KS.blocks])
  ⟨⟨h1.1, h2.1, h3.1⟩, h1.2, h2.2, h3.2⟩
/-- One of them does something: what turns is its own, or the lots, or nobody's. -/
theorem Full.step {w0 w w' : World} {G G' S : List Nat} {n dl gl i : Nat} {ks : Nat → KS} {v : Value} (h : Full w0 w G n dl gl ks v) (hm : Mod S w w') (hi : i < n) (K' : KS) (hK : K'.At w' G' n) (hs : K'.d = (ks i).d ∧ K'.r = (ks i).r ∧ K'.b = (ks i).b ∧ K'.me = (ks i).me ∧ K'.has = (ks i).has) (hSG : ∀ s ∈ S, s ∈ G)
    (hSo : ∀ s ∈ S, s ∈ (ks i).blocks ∨ s = dl ∨ ((∀ j, j < n → s ∉ (ks j).blocks) ∧ v.ownBlock ≠ some s)) (hG : ∀ g ∈ G', g ∈ G ∨ w.heap.size ≤ g) (hin : ∀ g ∈ G, g ∈ G') (hlo : ∀ g ∈ G', g < w'.heap.size) (hl : ∃ ls, LotsAt w' dl gl ls) :
    Full w0 w' G' n dl gl (fun j => if j = i then K' else ks j) v := by
  have hbl : K'.blocks = (ks i).blocks := by simp [KS.blocks, hs.1, hs.2.1, hs.2.2.1]
  have hbj : ∀ j, (if j = i then K' else ks j).blocks = (ks j).blocks ∧ (if j = i then K' else ks j).d = (ks j).d := fun j => by
    by_cases e : j = i
    · simp only [e, if_true]; exact ⟨hbl, hs.1⟩
    · simp [e]
  have hoth : ∀ j, j < n → j ≠ i → ∀ q ∈ (ks j).blocks, q ∉ S := fun j hj hji q hq hqS => by
    rcases hSo q hqS with h1 | h1 | h1
    · exact h.base.grp.apart j i hj hi hji q hq h1
    · exact (h.off j hj q hq).1 h1
    · exact h1.1 j hj hq
  have hvS : ∀ s ∈ S, v.ownBlock ≠ some s := fun s hsS hv => by
    rcases hSo s hsS with h1 | h1 | h1
    · exact (h.base.own s hv).2 i hi h1
    · exact h.offv (by rw [hv, h1])
    · exact h1.2 hv
  have e : ((List.range n).map fun j => (if j = i then K' else ks j).d) = (List.range n).map fun j => (ks j).d := List.map_congr_left fun j _ => (hbj j).2
  refine ⟨⟨h.base.grp.stepS hm hi K' hK hs hSG hoth hG hin hlo, ?_, fun g hg => ⟨hin g (h.base.own g hg).1, fun j hj => ?_⟩, fun g hg => ?_, h.base.mod.step hm (fun t ht => .inr (h.base.up t (hSG t ht)))⟩, hl, hin _ h.dlG, fun j hj q hq => ?_, h.offv⟩
  · rw [e]
    exact ownsRow_mod h.base.ptr hm (fun b hb hs => hvS b hs hb)
  · show g ∉ (if j = i then K' else ks j).blocks
    rw [(hbj j).1]
    exact (h.base.own g hg).2 j hj
  · rcases hG g hg with h1 | h1
    · exact h.base.up g h1
    · exact Nat.le_trans h.base.mod.size h1
  · have hq' : q ∈ (if j = i then K' else ks j).blocks := hq
    rw [(hbj j).1] at hq'
    exact h.off j hj q hq'

/-- A note that lies in a block. -/
def NoteIn (w : World) (B n g : Nat) (kd f t s fo : Int) : Prop := ∃ (vn : Value) (L : List Nat), KRow w g [.int .i64 kd, .int .i64 f, .int .i64 t, .int .u64 s, .int .i64 fo, vn] ∧ Upds w B vn (L.map calmU) ∧ (0 < L.length ∧ L.length ≤ 7) ∧ ∀ x ∈ L, x < n
theorem NoteIn.same {w w' : World} {B n g : Nat} {kd f t s fo : Int} (h : NoteIn w B n g kd f t s fo) (hm : Mod [] w w') : NoteIn w' B n g kd f t s fo := by
  obtain ⟨vn, L, h1, h2, h3, h4⟩ := h
  exact ⟨vn, L, h1.same hm, ownsRow_mod h2 hm (by simp), h3, h4⟩

/-- Detector i has pinged j with number s: its watch lies there, the others have none. -/
structure Pinged (w0 w : World) (G : List Nat) (n dl gl : Nat) (ks : Nat → KS) (v : Value) (i j : Nat) (s : Int) (wb : Nat) : Prop where
  full : Full w0 w G n dl gl ks v
  ilt : i < n
  jlt : j < n
  ne : j ≠ i
  idle : ∀ m, m < n → m ≠ i → ∃ a c, (ks m).W = .slice a 0 c
  watch : ∃ cw x, (ks i).W = .slice (some ⟨wb, 0, none⟩) 1 cw ∧ KRow w wb (watchV j s x) ∧ (1 ≤ cw ∧ cw ≤ maxLen) ∧ wb ∈ G ∧ (∀ m, m < n → wb ∉ (ks m).blocks) ∧ wb ≠ dl ∧ wb ≠ gl ∧ v.ownBlock ≠ some wb
theorem Pinged.same {w0 w w' : World} {G : List Nat} {n dl gl i j wb : Nat} {ks : Nat → KS} {v : Value} {s : Int} (h : Pinged w0 w G n dl gl ks v i j s wb) (hm : Mod [] w w') : Pinged w0 w' G n dl gl ks v i j s wb := by
  obtain ⟨cw, x, h1, h2, h3⟩ := h.watch
  exact ⟨h.full.same hm, h.ilt, h.jlt, h.ne, h.idle, ⟨cw, x, h1, h2.same hm, h3⟩⟩
theorem Full.more1 {w0 w w' : World} {G : List Nat} {n dl gl z : Nat} {ks : Nat → KS} {v : Value} (h : Full w0 w G n dl gl ks v) (hm : Mod [] w w') (hz : w.heap.size ≤ z) (hzl : z < w'.heap.size) (hG : ∀ g ∈ G, g < w.heap.size) : Full w0 w' (z :: G) n dl gl ks v := by
  have h' := h.same hm
  refine ⟨h.base.more hm (fun g hg => ?_) (fun g hg => by simp [hg]) (fun g hg => ?_), h'.lots, by simp [h.dlG], h.off, h.offv⟩
  · simp only [List.mem_cons] at hg
    rcases hg with rfl | hg
    · exact .inr hz
    · exact .inl hg
  · simp only [List.mem_cons] at hg
    rcases hg with rfl | hg
    · exact hzl
    · exact Nat.lt_of_lt_of_le (hG g hg) hm.size
theorem Full.keep1 {w0 w w' : World} {G : List Nat} {n dl gl z : Nat} {ks : Nat → KS} {v : Value} (h : Full w0 w G n dl gl ks v) (hm : Mod [z] w w') (hz : z ∈ G) (hb : ∀ j, j < n → z ∉ (ks j).blocks) (h1 : z ≠ dl) (h2 : z ≠ gl) (h3 : v.ownBlock ≠ some z) : Full w0 w' G n dl gl ks v := by
  obtain ⟨ls, hl⟩ := h.lots
  exact ⟨h.base.keep hm (fun s hs => by
    simp at hs
    subst hs
    exact ⟨hz, h3⟩) (h.base.grp.keep hm (by simpa using hz) (fun j hj q hq hs => by
    simp at hs
    subst hs
    exact hb j hj hq)) (fun _ _ => ⟨rfl, rfl⟩), ⟨ls, hl.mod hm (by simpa using h1.symm) (by simpa using h2.symm)⟩, h.dlG, h.off, h.offv⟩
/-- A block that is nobody's joins those that the lists leave alone. -/
theorem Pinged.more1 {w0 w w' : World} {G : List Nat} {n dl gl i j wb z : Nat} {ks : Nat → KS} {v : Value} {s : Int} (h : Pinged w0 w G n dl gl ks v i j s wb) (hm : Mod [] w w') (hz : w.heap.size ≤ z) (hzl : z < w'.heap.size) : Pinged w0 w' (z :: G) n dl gl ks v i j s wb ∧ (∀ m, m < n → z ∉ (ks m).blocks) ∧ z ≠ dl ∧ z ≠ gl ∧ z ≠ wb ∧ v.ownBlock ≠ some z := by
  have hd := h.full.base.grp.det i h.ilt
  have hd1 := hd.lo _ h.full.dlG
  obtain ⟨cw, x, h1, h2, h3, h4, h5, h6, h7, h8⟩ := h.watch
  have hw := h2.lt
  have hgl : gl < w.heap.size := by
    obtain ⟨ls, hls⟩ := h.full.lots
    obtain ⟨_, _, _, _, _, _, _, _, _, _, _, h9⟩ := hls
    exact h9
  exact ⟨⟨h.full.more1 hm hz hzl hd.lo, h.ilt, h.jlt, h.ne, h.idle, ⟨cw, x, h1, h2.same hm, h3, by simp [h4], h5, h6, h7, h8⟩⟩, fun m hm' hq => by have := (h.full.base.lt hm' hq).2; omega, by omega, by omega, by omega, fun e => by have := (ownsRow_ge h.full.base.ptr z e).2; omega⟩
theorem Pinged.keep1 {w0 w w' : World} {G : List Nat} {n dl gl i j wb z : Nat} {ks : Nat → KS} {v : Value} {s : Int} (h : Pinged w0 w G n dl gl ks v i j s wb) (hm : Mod [z] w w') (hz : z ∈ G) (hf : (∀ m, m < n → z ∉ (ks m).blocks) ∧ z ≠ dl ∧ z ≠ gl ∧ z ≠ wb ∧ v.ownBlock ≠ some z) : Pinged w0 w' G n dl gl ks v i j s wb := by
  obtain ⟨cw, x, h1, h2, h3⟩ := h.watch
  exact ⟨h.full.keep1 hm hz hf.1 hf.2.1 hf.2.2.1 hf.2.2.2.2, h.ilt, h.jlt, h.ne, h.idle, ⟨cw, x, h1, h2.mod hm (by simpa using hf.2.2.2.1.symm), h3⟩⟩

/-- Tick. -/
theorem full_tick {w0 w : World} {G : List Nat} {n dl gl i : Nat} {ks : Nat → KS} {v : Value} (h : Full w0 w G n dl gl ks v) (hI : Idle ks n) (hi : i < n) (ht : Tab w0) (ht0 : 1 < w0.heap.size) (hn : 2 ≤ n ∧ n ≤ 6) :
    Calls Tryz.prog 14 #[.pointer (some ⟨(ks i).d, 0, none⟩), .pointer (some ⟨dl, 0, none⟩)] w fun e w' => ∃ (G' : List Nat) (ks' : Nat → KS) (j : Nat) (s : Int) (g cg wb : Nat), e = .returned (.slice (some ⟨g, 0, none⟩) 1 cg) ∧ (1 ≤ cg ∧ cg ≤ maxLen) ∧ NoteIn w' w.heap.size n g 1 i j s 0 ∧ Pinged w0 w' G' n dl gl ks' v i j s wb := by
  obtain ⟨ls, hL⟩ := h.lots
  have hd := h.base.grp.det i hi
  have hme := h.base.grp.me i hi
  refine (tick_is hd (ht.mod h.base.mod (by simp)) hn (h.base.grp.has i hi) (by omega) (hI i hi) hL h.dlG (h.apart6 hi) (fun g hg => by have := h.base.up g hg; omega)).mono fun e w' hp => ?_
  obtain ⟨j, s, x, Lr, wb, cw, g, cg, vn, Ln, ls', hj, hji, he, hrow, hU, hl, hLn, hA, hw, hc, ⟨hwb, hg, hcg⟩, hL', hm⟩ := hp
  rw [hme] at hrow hji
  have hlo := hA.lo
  have hfresh : ∀ m, m < n → wb ∉ (ks m).blocks := fun m hm' hq => by have := (h.base.lt hm' hq).2; omega
  have hdl : dl < w.heap.size := hd.lo _ h.dlG
  have hgl : gl < w.heap.size := by
    obtain ⟨_, _, _, _, _, _, _, _, _, _, _, h9⟩ := hL
    exact h9
  have hv : v.ownBlock ≠ some wb := fun e => by have := (ownsRow_ge h.base.ptr wb e).2; omega
  have hf := h.step (G' := wb :: G) hm hi _ hA ⟨rfl, rfl, rfl, rfl, rfl⟩ (fun q hq => by
      simp only [List.mem_cons, List.not_mem_nil, or_false] at hq
      rcases hq with rfl | rfl | rfl
      · exact hd.inG.1
      · exact hd.inG.2.2
      · exact h.dlG) (fun q hq => by
      simp only [List.mem_cons, List.not_mem_nil, or_false] at hq
      rcases hq with rfl | rfl | rfl
      · exact .inl (by simp [KS.blocks])
      · exact .inl (by simp [KS.blocks])
      · exact .inr (.inl rfl)) (fun q hq => by
      simp only [List.mem_cons] at hq
      rcases hq with rfl | hq
      · exact .inr hwb
      · exact .inl hq) (fun q hq => by simp [hq]) hlo ⟨ls', hL'⟩
  refine ⟨wb :: G, _, j, s, g, cg, wb, he, hcg, ⟨vn, Ln, hrow, hU, hl, hLn⟩, hf, hi, hj, hji, fun m hm' hmi => ?_, cw, x, ?_, hw, hc, by simp, fun m hm' => ?_, by omega, by omega, hv⟩
  · simp only [hmi, if_false]
    exact hI m hm'
  · simp only [if_true]
  · show wb ∉ (if m = i then _ else ks m).blocks
    by_cases e : m = i
    · simp only [e, if_true]
      exact hfresh i hi
    · simp only [e, if_false]
      exact hfresh m hm'

theorem upd_self (ks : Nat → KS) (j : Nat) : (fun m => if m = j then ks j else ks m) = ks := funext fun m => by
  by_cases e : m = j
  · simp [e]
  · simp [e]

/-- Hear of a ping. -/
theorem full_ping {w0 w : World} {G : List Nat} {n dl gl i j wb B : Nat} {ks : Nat → KS} {v vn : Value} {s : Int} {L : List Nat} (l : Value) (h : Pinged w0 w G n dl gl ks v i j s wb) (ht : Tab w0) (hn : 2 ≤ n ∧ n ≤ 6) (hU : Upds w B vn (L.map calmU)) (hl : 0 < L.length ∧ L.length ≤ 7) (hL : ∀ x ∈ L, x < n) :
    Calls Tryz.prog 15 #[.pointer (some ⟨(ks j).d, 0, none⟩), .agg #[.int .i64 1, .int .i64 i, .int .i64 j, .int .u64 s, .int .i64 0, vn], l] w fun e w' => ∃ g, e = .returned (.tuple #[.slice (some ⟨g, 0, none⟩) 1 1, .int .i64 0]) ∧ NoteIn w' w.heap.size n g 2 j i s j ∧ Pinged w0 w' G n dl gl ks v i j s wb ∧ ∃ T, Mod T w w' ∧ ∀ t ∈ T, t ∈ (ks j).blocks := by
  have hd := h.full.base.grp.det j h.jlt
  have hme := h.full.base.grp.me j h.jlt
  have hhas := h.full.base.grp.has j h.jlt
  have hT : Tab w := ht.mod h.full.base.mod (by simp)
  have hbl : (ks j).b < w.heap.size := hd.lo _ hd.inG.2.2
  have hvs : ∃ a l c, vn = .slice a l c := by
    obtain ⟨g, c, rfl, _, _⟩ := hU.form (by rw [List.length_map]; exact hl.1)
    exact ⟨_, _, _, rfl⟩
  have hear := hear_by (K := ks j) (f := i) 1 58 s 0 vn l L
    (fun y w1 w2 => ∃ (g : Nat) (v' : Value) (M : List Nat), y = .slice (some ⟨g, 0, none⟩) 1 1 ∧ KRow w2 g [.int .i64 2, .int .i64 (ks j).me, .int .i64 i, .int .u64 s, .int .i64 (ks j).me, v'] ∧ w1.heap.size ≤ g ∧ Upds w2 w1.heap.size v' (M.map calmU) ∧ (0 < M.length ∧ M.length ≤ 7) ∧ (∀ x ∈ M, x < n) ∧ QMap w2 (ks j).b n ∧ Mod [(ks j).b] w1 w2)
    hd hT hn hhas (by rw [hme]; exact h.jlt) h.ilt (by rw [hme]; exact h.ne.symm) (by omega) (.inl ⟨rfl, rfl⟩) hU (by omega) hL
    (fun w1 hm1 hs1 => (answer_is 1 ((ks j).me : Int) s 0 vn (hd.same hm1) (hT.mod hm1 (by simp)) hn hhas (by rw [hme]; exact h.jlt) h.ilt hvs).mono fun e w2 ⟨g, v', M, he, hr, hg, hU', h0, h7, hM, hA, hm⟩ => ⟨_, _, _, he, g, v', M, rfl, hr, hg, hU', ⟨h0, h7⟩, hM, hA.q, hm⟩)
    (fun y a b ⟨g, v', M, _, _, _, _, _, _, _, hm⟩ => ⟨_, hm, by simpa using hbl⟩)
  rw [hme] at hear
  refine hear.mono fun e w' hp => ?_
  obtain ⟨y, w1, w2, he, hm1, hs1, ⟨g, v', M, rfl, hr, hg, hU', hl', hM, hq, hm2⟩, hm3⟩ := hp
  have hm12 : Mod [(ks j).b] w w2 := (hm1.wide (by simp)).trans hm2
  have hm : Mod [(ks j).b] w w' := hm12.step hm3 (fun x hx => .inr (by simp at hx; omega))
  have hA : (ks j).At w' G n := hd.rumored hm (hq.kept hm3 (by simp; omega))
  have hge := ownsRow_ge hU'
  obtain ⟨cw, x, k1, k2, k3, k4, k5, k6, k7, k8⟩ := h.watch
  have hlots : ∃ ls, LotsAt w' dl gl ls := by
    obtain ⟨ls, hls⟩ := h.full.lots
    have := h.full.off j h.jlt (ks j).b (by simp [KS.blocks])
    exact ⟨ls, hls.mod hm (by simpa using this.1.symm) (by simpa using this.2.symm)⟩
  have hf := h.full.step (G' := G) hm h.jlt (ks j) hA ⟨rfl, rfl, rfl, rfl, rfl⟩ (by simpa using hd.inG.2.2) (fun q hq => by simp at hq; exact .inl (by simp [KS.blocks, hq])) (fun q hq => .inl hq) (fun q hq => hq) (fun q hq => Nat.lt_of_lt_of_le (hd.lo q hq) hm.size) hlots
  rw [upd_self] at hf
  refine ⟨g, he, ⟨v', M, hr.mod hm3 (by simp; omega), ownsRow_base (ownsRow_mod hU' hm3 (fun b hb hs => ?_)) hm1.size, hl', hM⟩, ⟨hf, h.ilt, h.jlt, h.ne, h.idle, cw, x, k1, k2.mod hm ?_, k3, k4, k5, k6, k7, k8⟩, _, hm, by simp [KS.blocks]⟩
  · have := (hge b hb).1
    simp at hs
    omega
  · have := k5 j h.jlt
    simp [KS.blocks] at this
    simpa using this.2.2

/-- Hear of the answer: the watch is no more. -/
theorem full_ack {w0 w : World} {G : List Nat} {n dl gl i j wb B : Nat} {ks : Nat → KS} {v vn : Value} {s : Int} {L : List Nat} (l : Value) (h : Pinged w0 w G n dl gl ks v i j s wb) (ht : Tab w0) (hn : 2 ≤ n ∧ n ≤ 6) (hU : Upds w B vn (L.map calmU)) (hl : 0 < L.length ∧ L.length ≤ 7) (hL : ∀ x ∈ L, x < n) :
    Calls Tryz.prog 15 #[.pointer (some ⟨(ks i).d, 0, none⟩), .agg #[.int .i64 2, .int .i64 j, .int .i64 i, .int .u64 s, .int .i64 j, vn], l] w fun e w' => e = .returned (.tuple #[.slice none 0 0, .int .i64 0]) ∧ (∃ ks', Full w0 w' G n dl gl ks' v ∧ Idle ks' n) ∧ ∃ T, Mod T w w' ∧ ∀ t ∈ T, t ∈ G := by
  have hd := h.full.base.grp.det i h.ilt
  have hme := h.full.base.grp.me i h.ilt
  have hhas := h.full.base.grp.has i h.ilt
  have hT : Tab w := ht.mod h.full.base.mod (by simp)
  have hdl : (ks i).d < w.heap.size := hd.lo _ hd.inG.1
  have hrl : (ks i).r < w.heap.size := hd.lo _ hd.inG.2.1
  have hbl : (ks i).b < w.heap.size := hd.lo _ hd.inG.2.2
  obtain ⟨cw, x, k1, k2, k3, k4, k5, k6, k7, k8⟩ := h.watch
  have kb := k5 i h.ilt
  simp only [KS.blocks, List.mem_cons, List.not_mem_nil, or_false, not_or] at kb
  have hvs : ∃ a l c, vn = .slice a l c := by
    obtain ⟨g, c, rfl, _, _⟩ := hU.form (by rw [List.length_map]; exact hl.1)
    exact ⟨_, _, _, rfl⟩
  obtain ⟨S, hS⟩ : ∃ S, [w.heap.size + 1, w.heap.size + 1 + 1] = S := ⟨_, rfl⟩
  have hSm : ∀ q, q ∈ S → q = w.heap.size + 1 ∨ q = w.heap.size + 1 + 1 := fun q hq => by rw [← hS] at hq; simpa using hq
  have hear := hear_by (K := ks i) (f := j) 2 59 s j vn l L
    (fun y w1 w2 => y = .slice none 0 0 ∧ ({ ks i with W := .slice (some ⟨wb, 0, none⟩) 0 cw } : KS).At w2 (S ++ G) n ∧ Mod [(ks i).d, wb] w1 w2)
    hd hT hn hhas (by rw [hme]; exact h.ilt) h.jlt (by rw [hme]; exact h.ne) (by have := h.jlt; omega) (.inr ⟨rfl, rfl⟩) hU (by omega) hL
    (fun w1 hm1 hs1 => by
      have hA1 : (ks i).At w1 (S ++ G) n := hd.more hm1 (fun q hq => by
          rw [List.mem_append] at hq
          rcases hq with hq | hq
          · have := hSm q hq
            exact .inr (by omega)
          · exact .inl hq) (fun q hq => List.mem_append_right _ hq) (fun q hq => by
          rw [List.mem_append] at hq
          rcases hq with hq | hq
          · have := hSm q hq
            omega
          · exact Nat.lt_of_lt_of_le (hd.lo q hq) hm1.size)
      exact (acked_is 2 j ((ks i).me : Int) s x j vn hA1 k1 (k2.same hm1) k3 (List.mem_append_right _ k4) ⟨fun e => kb.1 e.symm, fun e => kb.2.1 e.symm, fun e => kb.2.2 e.symm⟩ hvs).mono fun e w2 ⟨he, hA, hm⟩ => ⟨_, _, _, he, rfl, hA, hm⟩)
    (fun y a b ⟨_, _, hm⟩ => ⟨_, hm, by
      have := k2.lt
      simp
      omega⟩)
  rw [hme] at hear
  refine hear.mono fun e w' hp => ?_
  obtain ⟨y, w1, w2, he, hm1, hs1, ⟨rfl, hA2, hm2⟩, hm3⟩ := hp
  rw [hS] at hm3
  have hm : Mod [(ks i).d, wb] w w' := ((hm1.wide (by simp)).trans hm2).step hm3 (fun q hq => .inr (by have := hSm q hq; omega))
  have hA := (hA2.mod hm3 (fun q hq => List.mem_append_left _ hq) (fun hq => by have := hSm _ hq; simp only at this; omega) (fun hq => by have := hSm _ hq; simp only at this; omega) (fun hq => by have := hSm _ hq; simp only at this; omega)).less (G' := G) (fun q hq => List.mem_append_right _ hq) hd.inG
  have hlots : ∃ ls, LotsAt w' dl gl ls := by
    obtain ⟨ls, hls⟩ := h.full.lots
    have := h.full.off i h.ilt (ks i).d (by simp [KS.blocks])
    exact ⟨ls, hls.mod hm (by simp; exact ⟨this.1.symm, k6.symm⟩) (by simp; exact ⟨this.2.symm, k7.symm⟩)⟩
  have hf := h.full.step (G' := G) hm h.ilt _ hA ⟨rfl, rfl, rfl, rfl, rfl⟩ (fun q hq => by
      simp only [List.mem_cons, List.not_mem_nil, or_false] at hq
      rcases hq with rfl | rfl
      · exact hd.inG.1
      · exact k4) (fun q hq => by
      simp only [List.mem_cons, List.not_mem_nil, or_false] at hq
      rcases hq with rfl | rfl
      · exact .inl (by simp [KS.blocks])
      · exact .inr (.inr ⟨k5, k8⟩)) (fun q hq => .inl hq) (fun q hq => hq) (fun q hq => Nat.lt_of_lt_of_le (hd.lo q hq) hm.size) hlots
  refine ⟨he, ⟨_, hf, fun m hm' => ?_⟩, _, hm, fun q hq => by
    simp only [List.mem_cons, List.not_mem_nil, or_false] at hq
    rcases hq with rfl | rfl
    · exact hd.inG.1
    · exact k4⟩
  by_cases e : m = i
  · simp only [e, if_true]
    exact ⟨_, _, rfl⟩
  · simp only [e, if_false]
    exact h.idle m hm' e

end Go.Proofs.YtaaaiggbnkeblaaGreatDoor

namespace Go.Proofs.YtaaaiggbnkeblaaGreatDoor
set_option linter.unusedSimpArgs false
set_option linter.unusedVariables false
open Go.RowKit

theorem Know1.same {w0 w w' : World} {G : List Nat} {n i k : Nat} {ks : Nat → KS} {K : KS} {v : Value} (h : Know1 w0 w G n i k ks K v) (hm : Mod [] w w') : Know1 w0 w' G n i k ks K v :=
  ⟨h.base.same hm, h.idle, h.det.same hm, h.me, h.has, h.len, h.wat, h.off, h.offv⟩
def ks0 : Nat → KS := fun _ => ⟨0, 0, 0, 0, 0, fun _ => (0, 0, 0), [], .slice none 0 0, 0, 0⟩
theorem base_start (w : World) (n : Nat) : Base w (w.alloc (.cells #[] 51)) [w.heap.size] n 0 ks0 (.slice (some ⟨w.heap.size, 0, none⟩) 0 0) ∧ Idle ks0 0 ∧ ∀ g ∈ [w.heap.size], g < (w.alloc (.cells #[] 51)).heap.size :=
  ⟨⟨⟨fun i hi => absurd hi (by omega), fun i hi => absurd hi (by omega), fun i hi => absurd hi (by omega), fun i j hi => absurd hi (by omega)⟩, own_empty (heap_new _ _) 0 (Nat.zero_le _), fun g hg => by
    cases hg
    exact ⟨by simp, fun j hj => absurd hj (by omega)⟩, fun g hg => by simp at hg; omega, (Mod.refl [] w).alloc _⟩, fun j hj => absurd hj (by omega), fun g hg => by simp at hg; simp; omega⟩
theorem full_new {w0 w w' : World} {G : List Nat} {n : Nat} {ks : Nat → KS} {v : Value} {xs : List Int} {e : Ending} (h : Base w0 w G n n ks v) (hG : ∀ g ∈ G, g < w.heap.size) (hN : NewPost w xs e w') : ∃ dl gl, e = .returned (.pointer (some ⟨dl, 0, none⟩)) ∧ Full w0 w' (dl :: G) n dl gl ks v := by
  obtain ⟨dl, gl, he, hd, hg, hL, hm⟩ := hN
  have hdl : dl < w'.heap.size := by
    obtain ⟨_, _, _, h1, _⟩ := hL
    exact block_lt_of_cell h1
  refine ⟨dl, gl, he, h.more hm (fun g hg => ?_) (fun g hg => by simp [hg]) (fun g hg => ?_), ⟨xs, hL⟩, by simp, fun j hj q hq => ?_, fun hv => ?_⟩
  · simp only [List.mem_cons] at hg
    rcases hg with rfl | hg
    · exact .inr hd
    · exact .inl hg
  · simp only [List.mem_cons] at hg
    rcases hg with rfl | hg
    · exact hdl
    · exact Nat.lt_of_lt_of_le (hG g hg) hm.size
  · have := (h.lt hj hq).2
    omega
  · have := (ownsRow_ge h.ptr dl hv).2
    omega
theorem Ptrs.cell {w : World} {ps : List Nat} {dg m c i d : Nat} (h : Ptrs w (.slice (some ⟨dg, 0, none⟩) m c) ps) (hi : ps[i]? = some d) : w.cell? ⟨dg, i, none⟩ = some (.pointer (some ⟨d, 0, none⟩)) := by
  obtain ⟨g, c', he, hc⟩ := h.at hi
  cases he
  exact hc
theorem Full.cell {w0 w : World} {G : List Nat} {n dl gl dg m c i : Nat} {ks : Nat → KS} (h : Full w0 w G n dl gl ks (.slice (some ⟨dg, 0, none⟩) m c)) (hi : i < n) : w.cell? ⟨dg, i, none⟩ = some (.pointer (some ⟨(ks i).d, 0, none⟩)) :=
  h.base.ptr.cell (by rw [List.getElem?_map, List.getElem?_range hi]; rfl)

theorem kall {K : KS} {w : World} {G : List Nat} {n : Nat} {bs : List Int} (h : K.At w G n) (ht : Tab w) (hf : K.has = 2 ^ n - 1) (hB : Bits ((2 ^ n - 1 : Nat) : Int) bs) (hb6 : bs.length ≤ 6) (hbx : ∀ x ∈ bs, 0 ≤ x ∧ x < 6 ∧ (bits .and .u64 ((2 ^ n - 1 : Nat) : Int) (2 ^ x.toNat) != 0) = true) :
    Calls Tryz.prog 17 #[.pointer (some ⟨K.r, 0, none⟩)] w fun e w' => ∃ v, e = .returned v ∧ CalmUs w' 0 v (bs.map Int.toNat) ∧ Mod [] w w' := by
  have hr := h.calm.roll
  rw [hf] at hr
  refine (all_is K.r K.me _ K.f bs w hr ht hB hb6 (fun x hx => ⟨(hbx x hx).1, (hbx x hx).2.1⟩)).mono fun e w' ⟨v, he, hU, hm⟩ => ⟨v, he, ?_, hm⟩
  have e : (bs.map fun x : Int => K.f x.toNat) = (bs.map Int.toNat).map calmU := by
    rw [List.map_map]
    refine List.map_congr_left fun x hx => ?_
    have hx := hbx x hx
    have := h.calm.calm x.toNat (by omega) (by rw [hf]; exact hx.2.2)
    rw [this]
    rfl
  rw [e] at hU
  exact calmUs_of (ownsRow_base hU (Nat.zero_le _))
theorem klive {K : KS} {w : World} {G : List Nat} {n : Nat} (h : K.At w G n) (ht : Tab w) (hf : K.has = 2 ^ n - 1) : Calls Tryz.prog 19 #[.pointer (some ⟨K.r, 0, none⟩)] w fun e w' => e = .returned (.int .u64 ((2 ^ n - 1 : Nat) : Int)) ∧ Mod [] w w' := by
  have := clive_is h.calm ht
  rw [hf] at this
  exact this

/-- The net behind its first note: none is left. -/
def NetNew (w : World) (v : Value) (wx : World) : Prop := ∃ z cz, v = .slice (some ⟨z, 0, none⟩) 0 cz ∧ wx.ownsRow w.heap.size 61 6 (.slice (some ⟨z, 0, none⟩) 0 cz) 0 [] ∧ w.heap.size ≤ z ∧ Mod [] w wx
theorem net_new (w : World) (A : Addr) (c : Nat) : ∃ v' w', (Builtin.append_ #[58, 58] 58 #[.slice (some ⟨w.heap.size, 0, none⟩) 0 0, .slice (some A) 0 c]).run Tryz.prog (w.alloc (.cells #[] 61)) = .ok v' w' ∧ NetNew w v' w' := by
  obtain ⟨v', w', hr, h2, h3, h4⟩ := notes_push (w.alloc (.cells #[] 61)) w.heap.size _ (own_empty (heap_new _ _) w.heap.size (Nat.le_refl _)) A 0 c (by omega) [] (by simp) (by simp) (by simp) (by simp)
  have hm : Mod [] w w' := by
    have hm1 : Mod [w.heap.size] (w.alloc (.cells #[] 61)) w' := by
      have := (Mod.refl [] (w.alloc (.cells #[] 61))).grownOwn h3
      simpa [Value.ownBlock] using this
    exact ((Mod.refl [] w).alloc _).step hm1 (fun t ht => .inr (by simp at ht; omega))
  refine ⟨v', w', hr, ?_⟩
  rcases h2.2 with ⟨rfl, _⟩ | ⟨z, cz, cur, rfl, hz, _⟩
  · exact absurd (h4.1 rfl).1 (by simp)
  · exact ⟨z, cz, rfl, h2, hz, hm⟩

set_option maxRecDepth 100000 in
set_option maxHeartbeats 16000000 in
theorem walk_TopKnown (w : World) (nb : Nat) (hnb : nb < 256) (a : Option Addr) (c : Nat) (xs : List Int) (rd : RdInts .u64 w a xs) (wf : ∀ x ∈ xs, (Lit.int .u64 x).wf = true) (_nc : a = none → c = 0) (ht : Tab w) :
    Calls Tryz.prog 4 #[.int .u8 nb, .slice a xs.length c] w (TruePost w) := by
  have hpn : ∀ (a : Addr) (w : World), (binOp .eql 51 (.pointer (some a)) (.pointer none)).run Tryz.prog w = .ok (.bool false) w := fun a w => by kernel_rfl
  obtain ⟨n, hn⟩ : ∃ n : Nat, 2 + nb % 5 = n := ⟨_, rfl⟩
  obtain ⟨mi, hrem⟩ : ∃ mi : Int, (nb : Int).tmod 5 = mi := ⟨_, rfl⟩
  have hadd : (2 : Int) + mi = n := by rw [Int.tmod_eq_emod_of_nonneg (by omega)] at hrem; omega
  have hn2 : 2 ≤ n ∧ n ≤ 6 := by omega
  have HN := Lib.hid hn2
  have hnb0 : (nb : Int) < 256 := by omega
  have hwn : wrap64 (n : Int) = n := wrap_small (by omega) (by omega)
  have HT := Lib.hid ht
  have HRD := Lib.hid (And.intro rd wf)
  clear ht hn hn2 rd wf
  obtain ⟨len, hlen⟩ : ∃ len, xs.length = len := ⟨_, rfl⟩
  have HLEN := Lib.hid hlen
  rw [hlen]
  by_cases h300 : len > 300
  · have h300' : (len : Int) > 300 := by omega
    clear hlen
    go_enter Tryz.func4, Tryz.ntmps4
    go_wp2_with fail
    refine (shown_is _ HT.out).mono ?_
    rintro e w2 ⟨rfl, hM2⟩
    have HM2 := Lib.hid hM2
    clear hM2
    go_wp2
    go_ret
    exact ⟨rfl, HM2.out⟩
  · have h300' : ¬ (len : Int) > 300 := by omega
    have H300 := Lib.hid h300
    clear hlen h300
    go_enter Tryz.func4, Tryz.ntmps4
    go_wp2_with fail
    refine (shown_is _ HT.out).mono ?_
    rintro e w2 ⟨rfl, hM2⟩
    have HM2 := Lib.hid hM2
    have HT2 := Lib.hid (HT.out.mod hM2 (by simp))
    have HBS := Lib.hid (base_start w2 n)
    clear hM2
    go_wp2_with fail
    go_loopw [6, 7] (fun v6 v7 wr => ∃ i : Nat, v7 = .int .i64 i ∧ i ≤ n ∧ ∃ G ks, Base w2 wr G n i ks v6 ∧ Idle ks i ∧ ∀ g ∈ G, g < wr.heap.size) (fun _ v7 _ => n - (intOf v7).toNat)
    case atStart => exact ⟨0, rfl, Nat.zero_le _, _, _, HBS.out.1, HBS.out.2.1, HBS.out.2.2⟩
    case round =>
      obtain ⟨i, rfl, hi, G, ks, hb, hI, hG⟩ := hrel
      by_cases hlt : i < n
      · have hlt' : (i : Int) < n := by omega
        have hwi : wrap64 ((i : Int) + 1) = (i : Int) + 1 := wrap_small (by omega) (by have := HN.out; omega)
        have HD := Lib.hid (And.intro hb (And.intro hI hG))
        clear hb hI hG
        go_wp2_with fail
        refine (det_newk i n HN.out.2 hlt wr).mono ?_
        rintro e w3 hN
        obtain ⟨G1, K, rfl, hK, hG1⟩ := know1_new HD.out.1 HD.out.2.1 HD.out.2.2 hN
        obtain ⟨d, hd⟩ : ∃ d, K.d = d := ⟨_, rfl⟩
        rw [hd]
        have HK := Lib.hid (And.intro hd (And.intro hK hG1))
        clear hN hK hG1 hd HD
        go_wp2_with fail
        go_loopw [9] (fun v9 wq => ∃ k : Nat, v9 = .int .i64 k ∧ k ≤ n ∧ ∃ G K, K.d = d ∧ Know1 w2 wq G n i k ks K u6 ∧ ∀ g ∈ G, g < wq.heap.size) (fun v9 _ => n - (intOf v9).toNat)
        case atStart => exact ⟨0, rfl, Nat.zero_le _, _, _, HK.out.1, HK.out.2.1, HK.out.2.2⟩
        case round =>
          obtain ⟨k, rfl, hk, G2, K2, hd2, hK2, hG2⟩ := hrel
          by_cases hlt2 : k < n
          · have hlt2' : (k : Int) < n := by omega
            have hwk : wrap64 ((k : Int) + 1) = (k : Int) + 1 := wrap_small (by omega) (by have := HN.out; omega)
            have HK2 := Lib.hid (And.intro hd2 (And.intro hK2 hG2))
            clear hd2 hK2 hG2
            go_wp2_with fail
            refine (new_any none 0 [] _ (fun h => absurd rfl h) (by simp) (by simp)).mono ?_
            rintro e w4 hN4
            obtain ⟨dl, rfl, hcall⟩ := know1_know HK2.out.2.1 HT2.out HN.out hlt hlt2 HK2.out.2.2 hN4
            rw [HK2.out.1] at hcall
            have HCALL := Lib.hid hcall
            clear hN4 hcall
            go_wp2_with fail
            refine HCALL.out.mono ?_
            rintro e w5 ⟨rfl, G3, K3, hd3, hK3, hG3⟩
            have HK3 := Lib.hid (And.intro hd3 (And.intro hK3 hG3))
            clear hd3 hK3 hG3 HCALL HK2
            go_wp2_with fail
            refine ⟨⟨k + 1, ?_, hlt2, G3, K3, HK3.out.1, HK3.out.2.1, HK3.out.2.2⟩, ?_⟩
            · first | rfl | (rw [hwk]; rfl)
            · first | exact meas_next hlt2 | (rw [hwk]; exact meas_next hlt2)
          · have hlt2' : ¬ (k : Int) < n := by omega
            obtain rfl : n = k := by omega
            have hsz : ∀ g ∈ G2, g < (wr.alloc (.cells #[.pointer (some ⟨d, 0, none⟩)] 51)).heap.size := fun g hg => by have := hG2 g hg; simp; omega
            have hhn := heap_new wr (.cells #[.pointer (some ⟨d, 0, none⟩)] 51)
            rw [← hd2] at hsz hhn
            obtain ⟨v', w', G', ks', hrun, hb', hI', hG'⟩ := know1_done (hK2.same ((Mod.refl [] wr).alloc _)) hsz HN.out hlt hhn
            rw [hd2] at hrun
            have HRUN := Lib.hid hrun
            have HB := Lib.hid (And.intro hb' (And.intro hI' hG'))
            clear hd2 hK2 hG2 hsz hhn hrun hb' hI' hG' HK hlt2
            go_wp2_with (at_builtin; with_reducible refine wplk_append_run _ rfl (.tmp 51) (.tmp 53) 50 rfl u6 (.slice (some ⟨wr.heap.size, 0, none⟩) 1 1) rfl rfl HRUN.out ?_)
            exact ⟨⟨u4, v', _, ⟨i + 1, rfl, hlt, G', ks', HB.out.1, HB.out.2.1, HB.out.2.2⟩, rfl, rfl, rfl⟩, meas_next hlt⟩
      · have hlt' : ¬ (i : Int) < n := by omega
        obtain rfl : n = i := by omega
        have HB := Lib.hid (And.intro hb (And.intro hI hG))
        have hMr := HM2.out.trans hb.mod
        have hrd := HRD.out.1.mod' hMr (by simp)
        have hnew := new_any a c xs wr hrd (by have := HLEN.out; have := H300.out; omega) (fun x hx => wf_bounds_u64 (HRD.out.2 x hx))
        rw [HLEN.out] at hnew
        have HNEW := Lib.hid hnew
        clear hb hI hG hMr hrd hnew hlt
        go_wp2_with fail
        refine HNEW.out.mono ?_
        rintro e w4 hN4
        obtain ⟨dl, gl, rfl, hF⟩ := full_new HB.out.1 HB.out.2.2 hN4
        obtain ⟨dg, dc, rfl, _, _⟩ := hF.base.ptr.form (by have := HN.out; simp; omega)
        rw [show ((List.range n).map fun j => (ks j).d).length = n by simp] at hF ⊢
        have HF := Lib.hid (And.intro hF HB.out.2.1)
        clear hN4 hF HB HNEW
        go_wp2_with fail
        go_loopw [11] (fun v11 wr => ∃ r : Nat, v11 = .int .i64 r ∧ r ≤ 20 ∧ ∃ G ks, Full w2 wr G n dl gl ks (.slice (some ⟨dg, 0, none⟩) n dc) ∧ Idle ks n) (fun v11 _ => 20 - (intOf v11).toNat)
        case atStart => exact ⟨0, rfl, Nat.zero_le _, _, _, HF.out.1, HF.out.2⟩
        case round =>
          obtain ⟨r, rfl, hr, G5, ks5, hF5, hI5⟩ := hrel
          by_cases hlr : r < 20
          · have hlr' : (r : Int) < 20 := by omega
            have hwr : wrap64 ((r : Int) + 1) = (r : Int) + 1 := wrap_small (by omega) (by omega)
            have HF5 := Lib.hid (And.intro hF5 hI5)
            clear hF5 hI5
            go_wp2_with fail
            go_loopw [12] (fun v12 wr => ∃ i : Nat, v12 = .int .i64 i ∧ i ≤ n ∧ ∃ G ks, Full w2 wr G n dl gl ks (.slice (some ⟨dg, 0, none⟩) n dc) ∧ Idle ks n) (fun v12 _ => n - (intOf v12).toNat)
            case atStart => exact ⟨0, rfl, Nat.zero_le _, _, _, HF5.out.1, HF5.out.2⟩
            case round =>
              obtain ⟨i, rfl, hi, G6, ks6, hF6, hI6⟩ := hrel
              by_cases hli : i < n
              · have hli' : (i : Int) < n := by omega
                have hwi : wrap64 ((i : Int) + 1) = (i : Int) + 1 := wrap_small (by omega) (by have := HN.out; omega)
                have cdi := hF6.cell hli
                have htick := full_tick hF6 hI6 hli HT2.out HT2.out.1 HN.out
                obtain ⟨di, hdi⟩ : ∃ di, (ks6 i).d = di := ⟨_, rfl⟩
                rw [hdi] at cdi htick
                have HTI := Lib.hid htick
                clear hF6 hI6 htick hdi
                go_wp2_with fail
                refine HTI.out.mono ?_
                rintro e w5 ⟨G7, ks7, j, s, g, cg, wb, rfl, hcg, ⟨vn, L, hrow, hU, hl, hL⟩, hP⟩
                obtain ⟨gv, cv, rfl, _, _⟩ := hU.form (by rw [List.length_map]; exact hl.1)
                obtain ⟨mv, hmv⟩ : ∃ mv, (L.map calmU).length = mv := ⟨_, rfl⟩
                rw [hmv] at hrow hU
                have HP := Lib.hid (And.intro hP (And.intro hU (And.intro hl hL)))
                have HCG := Lib.hid hcg
                have HROW := Lib.hid hrow
                have n0 := hrow.cell 0 _ rfl
                have n1 := hrow.cell 1 _ rfl
                have n2 := hrow.cell 2 _ rfl
                have n3 := hrow.cell 3 _ rfl
                have n4 := hrow.cell 4 _ rfl
                have n5 := hrow.cell 5 _ rfl
                clear hrow hU hl hL hP hcg HTI hmv
                go_wp2_with fail
                refine wp_loop_rounds 3 ?_
                rw [rounds_succ]
                go_upto_region 28 with fail
                have HR6 := Lib.hid (KRow.of (heap_new w5 (.cells #[.int .i64 1, .int .i64 i, .int .i64 j, .int .u64 s, .int .i64 0, .slice (some ⟨gv, 0, none⟩) mv cv] 61)))
                have HM6 := Lib.hid ((Mod.refl [] w5).alloc (.cells #[.int .i64 1, .int .i64 i, .int .i64 j, .int .u64 s, .int .i64 0, .slice (some ⟨gv, 0, none⟩) mv cv] 61))
                obtain ⟨X, hX⟩ : ∃ X, w5.heap.size = X := ⟨_, rfl⟩
                have HX := Lib.hid hX
                rw [hX] at HR6 ⊢
                generalize w5.alloc (.cells #[.int .i64 1, .int .i64 i, .int .i64 j, .int .u64 s, .int .i64 0, .slice (some ⟨gv, 0, none⟩) mv cv] 61) = W6 at HR6 HM6 ⊢
                clear n0 n1 n2 n3 n4 n5 hX
                go_cut [13] from 84 to 87 (fun s13 wx => NetNew W6 s13 wx)
                case first =>
                  by_cases hc1 : cg = 1
                  · subst hc1
                    obtain ⟨v', w', hrun, hnet⟩ := net_new W6 ⟨g, 0, none⟩ 0
                    have HRUN := Lib.hid hrun
                    have HNET := Lib.hid hnet
                    clear hrun hnet
                    go_wp2_with (at_builtin; with_reducible refine wplk_append_run _ rfl (.tmp 84) (.tmp 86) 58 rfl (.slice (some ⟨W6.heap.size, 0, none⟩) 0 0) (.slice (some ⟨g, 0, none⟩) 0 0) rfl rfl HRUN.out ?_)
                    go_meet
                    case rel => exact HNET.out
                  · have hcg1 : 1 ≤ cg := HCG.out.1
                    have hcg2 : cg ≤ 9223372036854775807 := by have := HCG.out.2; simpa [maxLen] using this
                    obtain ⟨v', w', hrun, hnet⟩ := net_new W6 ⟨g, 6, none⟩ (cg - 1)
                    have HRUN := Lib.hid hrun
                    have HNET := Lib.hid hnet
                    clear hrun hnet
                    go_wp2_with (at_builtin; with_reducible refine wplk_append_run _ rfl (.tmp 84) (.tmp 86) 58 rfl (.slice (some ⟨W6.heap.size, 0, none⟩) 0 0) (.slice (some ⟨g, 6, none⟩) 0 (cg - 1)) rfl rfl HRUN.out ?_)
                    go_meet
                    case rel => exact HNET.out
                case rest =>
                  obtain ⟨z, cz, rfl, hown, hz, hmz⟩ := hcut
                  obtain ⟨V7, rfl⟩ : ∃ V7, V7 = wc := ⟨wc, rfl⟩
                  have hXw := HX.out
                  have hms := HM6.out.size
                  have hzX : X < z := by have := HR6.out.lt; omega
                  have hzl : z < V7.heap.size := (ownsRow_ge hown z rfl).2
                  have hm5 : Mod [] w5 V7 := HM6.out.trans hmz
                  obtain ⟨hP7, hfree⟩ := HP.out.1.more1 hm5 (show w5.heap.size ≤ z by omega) hzl
                  have hR7 := HR6.out.same hmz
                  have hjn : (j : Int) < n := by have := hP7.jlt; omega
                  have cdj := hP7.full.cell hP7.jlt
                  obtain ⟨dj, hdj⟩ : ∃ dj, (ks7 j).d = dj := ⟨_, rfl⟩
                  have hping := fun w' (hm : Mod [] V7 w') => full_ping (.pointer (some ⟨dl, 0, none⟩)) (hP7.same hm) HT2.out HN.out (ownsRow_mod (ownsRow_mod HP.out.2.1 hm5 (by simp)) hm (by simp)) HP.out.2.2.1 HP.out.2.2.2
                  rw [hdj] at cdj hping
                  have HPI := Lib.hid hping
                  have HP7 := Lib.hid (And.intro hP7 hfree)
                  have HOWN := Lib.hid hown
                  have HZ := Lib.hid (And.intro hzX hzl)
                  have x0 := hR7.cell 0 _ rfl
                  have x1 := hR7.cell 1 _ rfl
                  have x2 := hR7.cell 2 _ rfl
                  have x3 := hR7.cell 3 _ rfl
                  have x4 := hR7.cell 4 _ rfl
                  have x5 := hR7.cell 5 _ rfl
                  clear hXw hms hzX hzl hm5 hP7 hfree hR7 hdj hping hown hz hmz HP HR6 HM6
                  go_wp2_with fail
                  go_cut [16, 17] from 92 to 102 (fun s16 s17 wx => s17 = .int .i64 0 ∧ ∃ g', s16 = .slice (some ⟨g', 0, none⟩) 1 1 ∧ NoteIn wx V7.heap.size n g' 2 j i s j ∧ Pinged w2 wx (z :: G7) n dl gl ks7 (.slice (some ⟨dg, 0, none⟩) n dc) i j s wb ∧ ∃ T, Mod T V7 wx ∧ ∀ t ∈ T, t ∈ (ks7 j).blocks)
                  case first =>
                    -- <slow>
                    go_region_with (go_at_call 15; refine (HPI.out _ (Mod.refl [] _).drew).mono ?_; rintro e w8 ⟨g', rfl, h8⟩; have H8 := Lib.hid h8; clear h8)
                    all_goals
                      go_wp2_with fail
                      go_meet
                      case rel =>
                        obtain ⟨hN8, hP8, T, hT8, hTb⟩ := H8.out
                        exact ⟨rfl, g', rfl, hN8, hP8, T, ((Mod.refl [] V7).drew.wide (by simp)).trans hT8, hTb⟩
                    -- </slow>
                  case rest =>
                    obtain ⟨rfl, g', rfl, ⟨vn2, L2, hr2, hU2, hl2, hL2⟩, hP8, T, hT8, hTb⟩ := hcut
                    obtain ⟨gv2, cv2, rfl, _, _⟩ := hU2.form (by rw [List.length_map]; exact hl2.1)
                    obtain ⟨mv2, hmv2⟩ : ∃ mv2, (L2.map calmU).length = mv2 := ⟨_, rfl⟩
                    rw [hmv2] at hr2 hU2
                    have hown8 := ownsRow_mod HOWN.out hT8 (fun b hb hs => by
                      cases hb
                      exact HP7.out.2.1 _ HP7.out.1.jlt (hTb _ hs))
                    have hs8 := hT8.size
                    obtain ⟨v9, w9, hrun, own9, gr9, _⟩ := notes_push wc W6.heap.size _ hown8 ⟨g', 0, none⟩ 1 1 (by omega) [.int .i64 2, .int .i64 j, .int .i64 i, .int .u64 s, .int .i64 j, .slice (some ⟨gv2, 0, none⟩) mv2 cv2] (by simp) (fun q u hu => by rw [add_lit, Nat.zero_add]; exact hr2.cell q u hu) (by intro u hu; simp at hu; rcases hu with rfl | rfl | rfl | rfl | rfl | rfl <;> rfl) (by have := HZ.out; have := (ownsRow_ge HOWN.out z rfl).1; omega)
                    obtain ⟨g9, c9, rfl, _, _⟩ := own9.form (by omega)
                    have hmz9 : Mod [z] wc w9 := by
                      have := (Mod.refl [] wc).grownOwn gr9
                      simpa [Value.ownBlock] using this
                    have HP9 := Lib.hid (And.intro (hP8.keep1 hmz9 (by simp) HP7.out.2) (And.intro (ownsRow_mod hU2 hmz9 (fun b hb hs => by have := (ownsRow_ge hU2 b hb).1; have := HZ.out.2; simp at hs; omega)) (And.intro hl2 hL2)))
                    have HR9 := Lib.hid (KRow.own own9)
                    have HC9 := Lib.hid (own_cap own9)
                    have HRUN := Lib.hid hrun
                    clear hown8 hs8 hmz9 hrun own9 gr9 hr2 hU2 hl2 hL2 hP8 hT8 hTb HP7 HOWN HZ HPI hmv2
                    go_wp2_with (at_builtin; with_reducible refine wplk_append_run _ rfl (.tmp 105) (.tmp 106) 58 rfl (.slice (some ⟨z, 0, none⟩) 0 cz) (.slice (some ⟨g', 0, none⟩) 1 1) rfl rfl HRUN.out ?_)
                    have n0 := HR9.out.cell 0 _ rfl
                    have n1 := HR9.out.cell 1 _ rfl
                    have n2 := HR9.out.cell 2 _ rfl
                    have n3 := HR9.out.cell 3 _ rfl
                    have n4 := HR9.out.cell 4 _ rfl
                    have n5 := HR9.out.cell 5 _ rfl
                    clear x0 x1 x2 x3 x4 x5 cdj
                    rw [rounds_succ]
                    go_upto_region 28 with fail
                    have HR10 := Lib.hid (KRow.of (heap_new w9 (.cells #[.int .i64 2, .int .i64 j, .int .i64 i, .int .u64 s, .int .i64 j, .slice (some ⟨gv2, 0, none⟩) mv2 cv2] 61)))
                    have HM10 := Lib.hid ((Mod.refl [] w9).alloc (.cells #[.int .i64 2, .int .i64 j, .int .i64 i, .int .u64 s, .int .i64 j, .slice (some ⟨gv2, 0, none⟩) mv2 cv2] 61))
                    obtain ⟨Y, hY⟩ : ∃ Y, w9.heap.size = Y := ⟨_, rfl⟩
                    have HY := Lib.hid hY
                    rw [hY] at HR10 ⊢
                    generalize w9.alloc (.cells #[.int .i64 2, .int .i64 j, .int .i64 i, .int .u64 s, .int .i64 j, .slice (some ⟨gv2, 0, none⟩) mv2 cv2] 61) = W10 at HR10 HM10 ⊢
                    clear n0 n1 n2 n3 n4 n5 hY
                    go_cut [13] from 84 to 87 (fun s13 wx => NetNew W10 s13 wx)
                    case first =>
                      by_cases hc1 : c9 = 1
                      · subst hc1
                        obtain ⟨v', w', hrun, hnet⟩ := net_new W10 ⟨g9, 0, none⟩ 0
                        have HRUN := Lib.hid hrun
                        have HNET := Lib.hid hnet
                        clear hrun hnet
                        go_wp2_with (at_builtin; with_reducible refine wplk_append_run _ rfl (.tmp 84) (.tmp 86) 58 rfl (.slice (some ⟨W10.heap.size, 0, none⟩) 0 0) (.slice (some ⟨g9, 0, none⟩) 0 0) rfl rfl HRUN.out ?_)
                        go_meet
                        case rel => exact HNET.out
                      · have hcg1 : 1 ≤ c9 := HC9.out.1
                        have hcg2 : c9 ≤ 9223372036854775807 := by have := HC9.out.2; simpa [maxLen] using this
                        obtain ⟨v', w', hrun, hnet⟩ := net_new W10 ⟨g9, 6, none⟩ (c9 - 1)
                        have HRUN := Lib.hid hrun
                        have HNET := Lib.hid hnet
                        clear hrun hnet
                        go_wp2_with (at_builtin; with_reducible refine wplk_append_run _ rfl (.tmp 84) (.tmp 86) 58 rfl (.slice (some ⟨W10.heap.size, 0, none⟩) 0 0) (.slice (some ⟨g9, 6, none⟩) 0 (c9 - 1)) rfl rfl HRUN.out ?_)
                        go_meet
                        case rel => exact HNET.out
                    case rest =>
                      obtain ⟨z2, cz2, rfl, hown, hz, hmz⟩ := hcut
                      obtain ⟨V11, rfl⟩ : ∃ V11, V11 = wc := ⟨wc, rfl⟩
                      have hm9 : Mod [] w9 V11 := HM10.out.trans hmz
                      have hP11 := HP9.out.1.same hm9
                      have hR11 := HR10.out.same hmz
                      have hin : (i : Int) < n := by omega
                      have cdi := hP11.full.cell hP11.ilt
                      obtain ⟨di, hdi⟩ : ∃ di, (ks7 i).d = di := ⟨_, rfl⟩
                      have hack := fun w' (hm : Mod [] V11 w') => full_ack (.pointer (some ⟨dl, 0, none⟩)) (hP11.same hm) HT2.out HN.out (ownsRow_mod (ownsRow_mod HP9.out.2.1 hm9 (by simp)) hm (by simp)) HP9.out.2.2.1 HP9.out.2.2.2
                      rw [hdi] at cdi hack
                      have hzG : z2 ∉ z :: G7 := fun h => by
                        have h1 := (HP9.out.1.full.base.grp.det i HP9.out.1.ilt).lo z2 h
                        have h2 := HM10.out.size
                        omega
                      have HAC := Lib.hid hack
                      have HOWN := Lib.hid (And.intro hown hzG)
                      have x0 := hR11.cell 0 _ rfl
                      have x1 := hR11.cell 1 _ rfl
                      have x2 := hR11.cell 2 _ rfl
                      have x3 := hR11.cell 3 _ rfl
                      have x4 := hR11.cell 4 _ rfl
                      have x5 := hR11.cell 5 _ rfl
                      clear hm9 hP11 hR11 hdi hack hzG hown hz hmz HP9 HR10 HM10
                      go_wp2_with fail
                      go_cut [16, 17] from 92 to 102 (fun s16 s17 wx => s17 = .int .i64 0 ∧ s16 = .slice none 0 0 ∧ (∃ ks', Full w2 wx (z :: G7) n dl gl ks' (.slice (some ⟨dg, 0, none⟩) n dc) ∧ Idle ks' n) ∧ wx.ownsRow W10.heap.size 61 6 (.slice (some ⟨z2, 0, none⟩) 0 cz2) 0 [])
                      case first =>
                        -- <slow>
                        go_region_with (go_at_call 15; refine (HAC.out _ (Mod.refl [] _).drew).mono ?_; rintro e w12 ⟨rfl, h12⟩; have H12 := Lib.hid h12; clear h12)
                        all_goals
                          go_wp2_with fail
                          go_meet
                          case rel =>
                            obtain ⟨hF12, T, hT12, hTG⟩ := H12.out
                            exact ⟨rfl, rfl, hF12, ownsRow_mod (ownsRow_mod HOWN.out.1 (Mod.refl [] V11).drew (by simp)) hT12 (fun b hb hs => by
                              cases hb
                              exact HOWN.out.2 (hTG _ hs))⟩
                        -- </slow>
                      case rest =>
                        obtain ⟨rfl, rfl, ⟨ks12, hF12, hI12⟩, hown12⟩ := hcut
                        obtain ⟨inote, hinote, _, _, _⟩ := infoNote
                        have HRUN := Lib.hid (run_append_owned_none (P := Tryz.prog) wc W10.heap.size 58 58 61 inote 6 Tryz.underlying58 hinote _ _ _ hown12)
                        have HF12 := Lib.hid (And.intro hF12 hI12)
                        clear hF12 hI12 hown12 hinote x0 x1 x2 x3 x4 x5 cdi HAC HOWN
                        go_wp2_with (at_builtin; with_reducible refine wplk_append_run _ rfl (.tmp 105) (.tmp 106) 58 rfl (.slice (some ⟨z2, 0, none⟩) 0 cz2) (.slice none 0 0) rfl rfl HRUN.out ?_)
                        rw [rounds_succ]
                        go_wp2_with fail
                        refine ⟨⟨i + 1, ?_, hli, _, _, HF12.out.1, HF12.out.2⟩, ?_⟩
                        · first | rfl | (rw [hwi]; rfl)
                        · first | exact meas_next hli | (rw [hwi]; exact meas_next hli)
              · have hli' : ¬ (i : Int) < n := by omega
                have HF6 := Lib.hid (And.intro hF6 hI6)
                clear hF6 hI6
                go_wp2_with fail
                refine ⟨⟨r + 1, ?_, hlr, _, _, HF6.out.1, HF6.out.2⟩, ?_⟩
                · first | rfl | (rw [hwr]; rfl)
                · first | exact meas_next hlr | (rw [hwr]; exact meas_next hlr)
          · have hlr' : ¬ (r : Int) < 20 := by omega
            have HF5 := Lib.hid hF5
            obtain ⟨U, rfl⟩ : ∃ U, U = wr := ⟨wr, rfl⟩
            obtain ⟨bs, hB, hb6, hbx, _⟩ := small_bits (2 ^ n - 1) (full_facts n 0 HN.out (by have := HN.out; omega)).2.1
            have HBS2 := Lib.hid (And.intro hB (And.intro hb6 hbx))
            clear hF5 hI5 hB hb6 hbx
            go_wp2_with fail
            go_loopw [18] (fun v18 wr => ∃ i : Nat, v18 = .int .i64 i ∧ i ≤ n ∧ Mod [] U wr) (fun v18 _ => n - (intOf v18).toNat)
            case atStart => exact ⟨0, rfl, Nat.zero_le _, Mod.refl _ _⟩
            case round =>
              obtain ⟨i, rfl, hi, hMr⟩ := hrel
              by_cases hli : i < n
              · have hli' : (i : Int) < n := by omega
                have hwi : wrap64 ((i : Int) + 1) = (i : Int) + 1 := wrap_small (by omega) (by have := HN.out; omega)
                obtain ⟨V, rfl⟩ : ∃ V, V = wr := ⟨wr, rfl⟩
                have h0n : 0 < n := by have := HN.out; omega
                have hF := HF5.out.same hMr
                have hTV := HT2.out.mod (hF.base.mod) (by simp)
                have c1 := hF.cell hli
                have c2 := hF.cell h0n
                have c3 := (hF.base.grp.det i hli).roll
                have c4 := (hF.base.grp.det 0 h0n).roll
                have hai := fun w' (hm : Mod [] V w') => kall ((hF.base.grp.det i hli).same hm) (hTV.mod hm (by simp)) (hF.base.grp.has i hli) HBS2.out.1 HBS2.out.2.1 HBS2.out.2.2
                have ha0 := fun w' (hm : Mod [] V w') => kall ((hF.base.grp.det 0 h0n).same hm) (hTV.mod hm (by simp)) (hF.base.grp.has 0 h0n) HBS2.out.1 HBS2.out.2.1 HBS2.out.2.2
                have hli2 := fun w' (hm : Mod [] V w') => klive ((hF.base.grp.det i hli).same hm) (hTV.mod hm (by simp)) (hF.base.grp.has i hli)
                obtain ⟨di, hdi⟩ : ∃ di, (ks5 i).d = di := ⟨_, rfl⟩
                obtain ⟨ri, hri⟩ : ∃ ri, (ks5 i).r = ri := ⟨_, rfl⟩
                obtain ⟨d0, hd0⟩ : ∃ d0, (ks5 0).d = d0 := ⟨_, rfl⟩
                obtain ⟨r0, hr0⟩ : ∃ r0, (ks5 0).r = r0 := ⟨_, rfl⟩
                rw [hdi] at c1
                rw [hd0] at c2
                rw [hdi, hri] at c3
                rw [hd0, hr0] at c4
                rw [hri] at hai hli2
                rw [hr0] at ha0
                have HAI := Lib.hid hai
                have HA0 := Lib.hid ha0
                have HLI := Lib.hid hli2
                have HMV := Lib.hid hMr
                have HL6 := Lib.hid (show (∀ k ∈ bs.map Int.toNat, k < 6) ∧ (bs.map Int.toNat).length ≤ 1000000 from ⟨fun k hk => by
                  obtain ⟨x, hx, rfl⟩ := List.mem_map.1 hk
                  have := HBS2.out.2.2 x hx
                  omega, by rw [List.length_map]; have := HBS2.out.2.1; omega⟩)
                clear hai ha0 hli2 hMr hF hTV hdi hri hd0 hr0
                go_wp2_with fail
                go_cut [142] from 113 to 142 (fun s wx => s = .bool false ∧ Mod [] U wx)
                case first =>
                  -- <slow>
                  go_region_held3 (fun w' => w'.cell? ⟨dg, i, none⟩ = some (.pointer (some ⟨di, 0, none⟩)) ∧ w'.cell? ⟨dg, 0, none⟩ = some (.pointer (some ⟨d0, 0, none⟩)) ∧ w'.cell? ⟨di, 0, none⟩ = some (.pointer (some ⟨ri, 0, none⟩)) ∧ w'.cell? ⟨d0, 0, none⟩ = some (.pointer (some ⟨r0, 0, none⟩))) (first | exact ⟨c1, c2, c3, c4⟩ | exact ⟨HML.out.at c1 (by simp), HML.out.at c2 (by simp), HML.out.at c3 (by simp), HML.out.at c4 (by simp)⟩ | exact ⟨HMS.out.at c1 (by simp), HMS.out.at c2 (by simp), HMS.out.at c3 (by simp), HMS.out.at c4 (by simp)⟩ | exact ⟨HMA.out.at c1 (by simp), HMA.out.at c2 (by simp), HMA.out.at c3 (by simp), HMA.out.at c4 (by simp)⟩ | exact ⟨HMZ.out.at c1 (by simp), HMZ.out.at c2 (by simp), HMZ.out.at c3 (by simp), HMZ.out.at c4 (by simp)⟩) (first | (go_at_call 18; refine (many_full n HN.out _).mono ?_; rintro e wM ⟨rfl, rfl⟩) | (go_at_call 19; refine (HLI.out _ (by repeat (first | exact HML.out | exact HMS.out | exact HMA.out | exact HMZ.out | exact Mod.refl [] V | refine Mod.drew ?_))).mono ?_; rintro e wL ⟨rfl, hML⟩; have HML := Lib.hid (show Mod [] V wL from Mod.trans (by repeat (first | exact HML.out | exact HMS.out | exact HMA.out | exact HMZ.out | exact Mod.refl [] V | refine Mod.drew ?_)) hML); clear hML) | (go_at_call 16; refine (same07 _ HL6.out.1 vA vZ 0 0 _ (by first | exact HUA.out | exact HUA.out.same HRZ.out) (by first | exact HUZ.out | exact HUZ.out.same HRA.out) HL6.out.2).mono ?_; rintro e wS ⟨rfl, hMS⟩; have HMS := Lib.hid (show Mod [] V wS from Mod.trans (by repeat (first | exact HML.out | exact HMS.out | exact HMA.out | exact HMZ.out | exact Mod.refl [] V | refine Mod.drew ?_)) hMS); clear hMS) | (go_at_call_of 17 (Value.pointer (some ⟨ri, 0, none⟩)); refine (HAI.out _ (by repeat (first | exact HML.out | exact HMS.out | exact HMA.out | exact HMZ.out | exact Mod.refl [] V | refine Mod.drew ?_))).mono ?_; rintro e wA ⟨vA, rfl, hUA, hMA⟩; have HRA := Lib.hid hMA; have HMA := Lib.hid (show Mod [] V wA from Mod.trans (by repeat (first | exact HML.out | exact HMS.out | exact HMA.out | exact HMZ.out | exact Mod.refl [] V | refine Mod.drew ?_)) hMA); have HUA := Lib.hid hUA; clear hUA hMA) | (go_at_call_of 17 (Value.pointer (some ⟨r0, 0, none⟩)); refine (HA0.out _ (by repeat (first | exact HML.out | exact HMS.out | exact HMA.out | exact HMZ.out | exact Mod.refl [] V | refine Mod.drew ?_))).mono ?_; rintro e wZ ⟨vZ, rfl, hUZ, hMZ⟩; have HRZ := Lib.hid hMZ; have HMZ := Lib.hid (show Mod [] V wZ from Mod.trans (by repeat (first | exact HML.out | exact HMS.out | exact HMA.out | exact HMZ.out | exact Mod.refl [] V | refine Mod.drew ?_)) hMZ); have HUZ := Lib.hid hUZ; clear hUZ hMZ))
                  all_goals
                    go_wp2_with fail
                    go_meet
                    case rel => exact ⟨rfl, HMV.out.trans HML.out⟩
                  -- </slow>
                case rest =>
                  obtain ⟨rfl, hMx⟩ := hcut
                  have HMX := Lib.hid hMx
                  clear hMx c1 c2 c3 c4
                  go_wp2_with fail
                  refine ⟨⟨i + 1, ?_, hli, HMX.out⟩, ?_⟩
                  · first | rfl | (rw [hwi]; rfl)
                  · first | exact meas_next hli | (rw [hwi]; exact meas_next hli)
              · have hli' : ¬ (i : Int) < n := by omega
                have HF6 := Lib.hid ((HM2.out.trans HF5.out.base.mod).trans hMr)
                clear hMr
                go_wp2
                go_ret
                exact ⟨rfl, HF6.out⟩

end Go.Proofs.YtaaaiggbnkeblaaGreatDoor
