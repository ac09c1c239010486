/-
  The walks of a cloud of one: with, Send, Tick, Round.
  The walk of cloud.New: one node, alone.
  The walks of cloud.Trace, and of conventicletop.shown.
-/
import Derived.Test.YtaaaiggbnkeblaaGreatDoorMTopSd
import Derived.Test.YtaaaiggbnkeblaaGreatDoorMTopTi
import Derived.Test.YtaaaiggbnkeblaaGreatDoorMTopPo
import Derived.Lib.SliceRun
namespace Go.Proofs.YtaaaiggbnkeblaaGreatDoor
set_option linter.unusedSimpArgs false
set_option linter.unusedVariables false
open Go.RowKit

/-- What stands at a cloud of one ahead of a call. -/
structure CloudEnv (w : World) (c N D K S B : Nat) (l tr : Value) (es : List Ent) : Prop where
  cloud : CloudAt w c N l tr
  own : w.ownsRow B 164 9 tr es.length (eflat es)
  len : es.length ≤ 90
  bnd : c < B ∧ N < B ∧ S < B ∧ K < B ∧ B ≤ w.heap.size
  ne : c ≠ K ∧ c ≠ N ∧ c ≠ S ∧ N ≠ K ∧ S ≠ K

def WithSend (w : World) (c N D K S : Nat) (l tr : Value) (num : Int) (Q : List M) (B : Nat) (es : List Ent) (t : ByteArray) (e : Ending) (w' : World) : Prop :=
  e = .returned (.int .i64 0) ∧ ∃ tr', CloudAt w' c N l tr' ∧ w'.ownsRow B 164 9 tr' (es.length + 1) (eflat (es ++ [⟨0, true, 0, 1, 1, 0, 0, num + 1, t⟩])) ∧ NodeAt w' N D K (some ⟨S, 0, none⟩) (.slice none 0 0) 1 ∧ DeskAt w' K 0 (num + 1) (Q ++ [(0, num + 1, t)]) ∧ Mod (c :: K :: N :: tr.ownBlock.toList) w w'

set_option maxRecDepth 100000 in
set_option maxHeartbeats 4000000 in
theorem cwith_send (c N D K S pt pc pn B : Nat) (l tr : Value) (num : Int) (Q : List M) (es : List Ent) (t : ByteArray) (w : World) (h : CloudEnv w c N D K S B l tr es) (hn : NodeAt w N D K (some ⟨S, 0, none⟩) (.slice none 0 0) 1) (hk : DeskAt w K 0 num Q)
    (hs : w.cell? ⟨S, 0, none⟩ = some (.int .u64 1) ∧ w.cell? ⟨S, 1, none⟩ = some (.int .u64 1)) (hb : w.cell? ⟨pt, 0, none⟩ = some (.string t) ∧ w.cell? ⟨pc, 0, none⟩ = some (.pointer (some ⟨c, 0, none⟩)) ∧ w.cell? ⟨pn, 0, none⟩ = some (.int .i64 0))
    (he : sendErr num Q.length t = 0) (hp : (pc ≠ c ∧ pn ≠ c) ∧ (pc ≠ K ∧ pn ≠ K) ∧ ∀ b, tr.ownBlock = some b → b ≠ pc ∧ b ≠ pn) :
    Calls Tryz.prog 70 #[.pointer (some ⟨c, 0, none⟩), .int .i64 0, .func (.func 71) #[] #[.pointer (some ⟨pt, 0, none⟩), .pointer (some ⟨pc, 0, none⟩), .pointer (some ⟨pn, 0, none⟩)]] w (WithSend w c N D K S l tr num Q B es t) := by
  have n1 := h.cloud.n
  have u1 := h.cloud.up
  have c0 := h.cloud.c0
  have HC := Lib.hid (csend1 c N D K S pt pc pn B l tr (.slice none 0 0) num Q es t w h.cloud hn hk hs hb he h.own (by have := h.len; omega) h.bnd h.ne hp)
  have HE := Lib.hid h
  clear h hn hk hs hb he hp
  go_enter Tryz.func70, Tryz.ntmps70
  go_wp2_with fail
  refine (has_is 1 0 true (by decide) (by decide) _).mono ?_
  rintro e w1 ⟨rfl, rfl⟩
  go_wp2_with fail
  refine HC.out.mono ?_
  rintro e w1 ⟨rfl, tr', hc1, ho1, hn1, hk1, hM1⟩
  have H1 := Lib.hid (And.intro hc1 (And.intro ho1 (And.intro hk1 hM1)))
  have HN1 := Lib.hid hn1
  clear n1 u1 c0 hc1 ho1 hk1 hM1 hn1
  go_wp2_with fail
  refine (cpoll_nil c N D K l tr' (some ⟨S, 0, none⟩) 1 _ H1.out.1 HN1.out).mono ?_
  rintro e w2 ⟨rfl, hn2, hM2⟩
  have H2 := Lib.hid (And.intro hn2 hM2)
  clear hn2 hM2
  go_wp2
  go_ret
  obtain ⟨hc1, ho1, hk1, hM1⟩ := H1.out
  obtain ⟨hn2, hM2⟩ := H2.out
  have hne := HE.out.ne
  have hbd := HE.out.bnd
  refine ⟨rfl, tr', hc1.mod hM2 (by simp; omega), ownsRow_mod ho1 hM2 (fun b hb => by have := (ownsRow_ge ho1 b hb).1; simp; omega), hn2, hk1.mod hM2 (by simp; omega), ?_⟩
  exact (hM1.wide (fun k hk => by simp only [List.mem_cons] at hk ⊢; rcases hk with h | h | h; exact .inl h; exact .inr (.inl h); exact .inr (.inr (.inr h)))).trans (hM2.wide (by simp))

set_option maxRecDepth 100000 in
set_option maxHeartbeats 4000000 in
theorem csend0 (c N D K S B : Nat) (l tr : Value) (num : Int) (Q : List M) (es : List Ent) (t : ByteArray) (w : World) (h : CloudEnv w c N D K S B l tr es) (hn : NodeAt w N D K (some ⟨S, 0, none⟩) (.slice none 0 0) 1) (hk : DeskAt w K 0 num Q)
    (hs : w.cell? ⟨S, 0, none⟩ = some (.int .u64 1) ∧ w.cell? ⟨S, 1, none⟩ = some (.int .u64 1)) (he : sendErr num Q.length t = 0) :
    Calls Tryz.prog 23 #[.pointer (some ⟨c, 0, none⟩), .int .i64 0, .string t] w (WithSend w c N D K S l tr num Q B es t) := by
  have hmf : ∀ fn first cap w, (Instr.makeFunc fn first cap).run Tryz.prog w = .ok (.func fn first cap) w := fun _ _ _ _ => rfl
  have HM := Lib.hid ((((Mod.refl [] w).alloc (.cells #[.pointer (some ⟨c, 0, none⟩)] 93)).alloc (.cells #[.int .i64 0] 3)).alloc (.cells #[.string t] 9))
  have HE := Lib.hid h
  have HN := Lib.hid hn
  have HK := Lib.hid hk
  have HS := Lib.hid hs
  have HSE := Lib.hid he
  clear h hn hk hs he
  go_enter Tryz.func23, Tryz.ntmps23
  go_wp2_with fail
  have hh := HE.out
  have hob : ∀ b, tr.ownBlock = some b → b < w.heap.size := fun b hb => (ownsRow_ge hh.own b hb).2
  have hbd := hh.bnd
  obtain ⟨_, _, hraw, _⟩ := HK.out
  have hKl := hraw.lt
  have hcl := hh.cloud.lt
  have he2 : CloudEnv (((w.alloc (.cells #[.pointer (some ⟨c, 0, none⟩)] 93)).alloc (.cells #[.int .i64 0] 3)).alloc (.cells #[.string t] 9)) c N D K S B l tr es :=
    ⟨hh.cloud.mod HM.out (by simp), ownsRow_mod hh.own HM.out (by simp), hh.len, by simp; omega, hh.ne⟩
  have hc0 := heap_new w (.cells #[.pointer (some ⟨c, 0, none⟩)] 93)
  refine (cwith_send c N D K S (w.heap.size + 1 + 1) w.heap.size (w.heap.size + 1) B l tr num Q es t _ he2 (HN.out.mod HM.out (by simp)) (HK.out.mod HM.out (by simp)) ⟨HM.out.at HS.out.1 (by simp), HM.out.at HS.out.2 (by simp)⟩
    ⟨cell_in (heap_at _ _ _ (by simp)) rfl, cell_in (row_alloc (row_alloc (heap_new _ _))) rfl, cell_in (row_alloc (heap_at _ _ _ (by simp))) rfl⟩ HSE.out ⟨by omega, by omega, fun b hb => by have := hob b hb; omega⟩).mono ?_
  rintro e w1 ⟨rfl, tr', hc1, ho1, hn1, hk1, hM1⟩
  have HF := Lib.hid (And.intro hc1 (And.intro ho1 (And.intro hn1 (And.intro hk1 hM1))))
  clear hh hob hbd hraw hKl hcl he2 hc0 hc1 ho1 hn1 hk1 hM1
  go_wp2
  go_ret
  obtain ⟨hc1, ho1, hn1, hk1, hM1⟩ := HF.out
  exact ⟨rfl, tr', hc1, ho1, hn1, hk1, (HM.out.wide (by simp)).trans hM1⟩

/-- A cloud of one whose node is alone and has sent its first message. -/
structure CloudAlone (w : World) (c N D K r S H T L R C m B : Nat) (now quiet : Int) (sz : Nat) (l tr : Value) (es : List Ent) (t : ByteArray) : Prop where
  cloud : CloudAt w c N l tr
  own : w.ownsRow B 164 9 tr es.length (eflat es)
  len : es.length ≤ 90
  alone : Alone w N D K r S H T L R C m (.slice none 0 0) now 1 [(0, 1, t)] 0 0 quiet 0 (fun _ => p0) 1 (fun _ => none) sz (fun _ => none) 0 #[] 0
  low : c < N ∧ c < D ∧ c < K ∧ c < S ∧ c < H ∧ c < L ∧ c < R
  high : (N < B ∧ D < B ∧ K < B ∧ S < B ∧ H < B ∧ L < B ∧ R < B) ∧ B ≤ w.heap.size
  text : t.size ≤ 64
  num : (0 ≤ now ∧ now < 1000) ∧ 0 ≤ quiet ∧ quiet < 1000

theorem CloudAlone.mod0 {w w' : World} {c N D K r S H T L R C m B : Nat} {now quiet : Int} {sz : Nat} {l tr : Value} {es : List Ent} {t : ByteArray} (h : CloudAlone w c N D K r S H T L R C m B now quiet sz l tr es t) (hm : Mod [] w w') : CloudAlone w' c N D K r S H T L R C m B now quiet sz l tr es t :=
  ⟨h.cloud.mod hm (by simp), ownsRow_mod h.own hm (by simp), h.len, h.alone.mod0 hm, h.low, ⟨h.high.1, Nat.le_trans h.high.2 hm.size⟩, h.text, h.num⟩

def Tick1Post (w : World) (c N D K S H L R : Nat) (l tr : Value) (t : ByteArray) (e : Ending) (w' : World) : Prop :=
  e = .returned (.int .i64 0) ∧ ∃ g cap, CloudAt w' c N l tr ∧ NodeAt w' N D K (some ⟨S, 0, none⟩) (.slice (some ⟨g, 0, none⟩) 1 cap) 1 ∧ (∀ j v, (evcells ⟨0, false, 2, 1, 1, 1, 0, 1, t⟩)[j]? = some v → w'.cell? ⟨g, j, none⟩ = some v) ∧ w.heap.size ≤ g ∧ Mod [N, D, K, S, H, L, R] w w'

set_option maxRecDepth 100000 in
set_option maxHeartbeats 4000000 in
theorem ctick1 (c N D K r S H T L R C m B pc : Nat) (now quiet : Int) (sz : Nat) (l tr : Value) (es : List Ent) (t : ByteArray) (w : World) (h : CloudAlone w c N D K r S H T L R C m B now quiet sz l tr es t)
    (hb : w.cell? ⟨pc, 0, none⟩ = some (.pointer (some ⟨c, 0, none⟩))) (hp : pc ∉ [N, D, K, S, H, L, R]) :
    Calls Tryz.prog 123 #[.pointer (some ⟨N, 0, none⟩), .pointer (some ⟨pc, 0, none⟩)] w (Tick1Post w c N D K S H L R l tr t) := by
  have HC := Lib.hid h
  have HP := Lib.hid hp
  have x67 := h.cloud.lots
  have HCN := Lib.hid (show c ∉ [N, D, K, S, H, L, R] from by have := h.low; simp; omega)
  clear h hp
  go_enter Tryz.func123, Tryz.ntmps123
  go_wp2_with fail
  go_region_held3 (fun w' => w'.cell? ⟨pc, 0, none⟩ = some (.pointer (some ⟨c, 0, none⟩)) ∧ w'.cell? ⟨c, 67, none⟩ = some l) (first | exact ⟨hb, x67⟩ | exact ⟨HM5.out.at hb HP.out, HM5.out.at x67 HCN.out⟩) ((first | (go_at_call 125; refine (ntick1 N D K r S H T L R C m now quiet sz l t _ (HC.out.alone.mod0 (Mod.refl [] _).drew) HC.out.text HC.out.num.1 HC.out.num.2).mono ?_; rintro e w5 ⟨g, cap, rfl, hn5, hev, hg, hM5⟩; have HM5 := Lib.hid ((Mod.refl [N, D, K, S, H, L, R] w).drew.trans hM5); have HF := Lib.hid (And.intro hn5 (And.intro hev hg)); clear hn5 hev hg hM5) | (go_at_call 124; refine (cput_nil _ _ _ _).mono ?_; rintro e w6 ⟨rfl, hw6⟩; have hw5 := hw6.symm; clear hw6; subst hw5)))
  go_wp2
  go_ret
  obtain ⟨hn5, hev, hg⟩ := HF.out
  exact ⟨rfl, g, cap, HC.out.cloud.mod HM5.out HCN.out, hn5, hev, hg, HM5.out⟩

def WithTick (w : World) (c N D K S H L R B : Nat) (l tr : Value) (es : List Ent) (t : ByteArray) (e : Ending) (w' : World) : Prop :=
  e = .returned (.int .i64 0) ∧ ∃ tr', CloudAt w' c N l tr' ∧ w'.ownsRow B 164 9 tr' (es.length + 1) (eflat (es ++ [⟨0, false, 2, 1, 1, 1, 0, 1, t⟩])) ∧ Mod ([c, N, D, K, S, H, L, R] ++ tr.ownBlock.toList) w w'

set_option maxRecDepth 100000 in
set_option maxHeartbeats 4000000 in
theorem cwith_tick (c N D K r S H T L R C m B pc : Nat) (now quiet : Int) (sz : Nat) (l tr : Value) (es : List Ent) (t : ByteArray) (w : World) (h : CloudAlone w c N D K r S H T L R C m B now quiet sz l tr es t)
    (hb : w.cell? ⟨pc, 0, none⟩ = some (.pointer (some ⟨c, 0, none⟩))) (hp : pc ∉ [N, D, K, S, H, L, R]) :
    Calls Tryz.prog 70 #[.pointer (some ⟨c, 0, none⟩), .int .i64 0, .func (.func 123) #[] #[.pointer (some ⟨pc, 0, none⟩)]] w (WithTick w c N D K S H L R B l tr es t) := by
  have n1 := h.cloud.n
  have u1 := h.cloud.up
  have c0 := h.cloud.c0
  have HC := Lib.hid (ctick1 c N D K r S H T L R C m B pc now quiet sz l tr es t w h hb hp)
  have HE := Lib.hid h
  clear h hb hp
  go_enter Tryz.func70, Tryz.ntmps70
  go_wp2_with fail
  refine (has_is 1 0 true (by decide) (by decide) _).mono ?_
  rintro e w1 ⟨rfl, rfl⟩
  go_wp2_with fail
  refine HC.out.mono ?_
  rintro e w1 ⟨rfl, g, cap, hc1, hn1, hev, hg, hM1⟩
  have ho1 := ownsRow_mod HE.out.own hM1 (fun b hb => by have := (ownsRow_ge HE.out.own b hb).1; have := HE.out.high; simp; omega)
  have HX := Lib.hid (show c < B ∧ N < B ∧ B ≤ w1.heap.size ∧ c ≠ N ∧ g ≠ N from by
    have h1 := HE.out.high
    have h2 := HE.out.low
    have h3 := hM1.size
    omega)
  have H1 := Lib.hid (And.intro hc1 (And.intro hn1 (And.intro hev (And.intro ho1 hM1))))
  clear n1 u1 c0 hc1 hn1 hev hg hM1 ho1
  go_wp2_with fail
  refine (cpoll_one c N D K g cap B l tr (some ⟨S, 0, none⟩) 1 es 2 1 1 1 0 1 t _ H1.out.1 H1.out.2.1 H1.out.2.2.1 H1.out.2.2.2.1 (by have := HE.out.len; omega) HX.out).mono ?_
  rintro e w2 ⟨rfl, tr', hc2, _, ho2, hM2⟩
  have H2 := Lib.hid (And.intro hc2 (And.intro ho2 hM2))
  clear hc2 ho2 hM2
  go_wp2
  go_ret
  obtain ⟨hc2, ho2, hM2⟩ := H2.out
  refine ⟨rfl, tr', hc2, ho2, (H1.out.2.2.2.2.wide (fun k hk => ?_)).trans (hM2.wide (fun k hk => ?_))⟩
  · simp at hk ⊢
    omega
  · simp only [List.mem_cons] at hk
    rcases hk with h | h | h
    · simp [h]
    · simp [h]
    · simp only [List.mem_append]; exact .inr h

set_option maxRecDepth 100000 in
set_option maxHeartbeats 4000000 in
theorem ctick0 (c N D K r S H T L R C m B : Nat) (now quiet : Int) (sz : Nat) (l tr : Value) (es : List Ent) (t : ByteArray) (w : World) (h : CloudAlone w c N D K r S H T L R C m B now quiet sz l tr es t) :
    Calls Tryz.prog 74 #[.pointer (some ⟨c, 0, none⟩), .int .i64 0] w (WithTick w c N D K S H L R B l tr es t) := by
  have hmf : ∀ fn first cap w, (Instr.makeFunc fn first cap).run Tryz.prog w = .ok (.func fn first cap) w := fun _ _ _ _ => rfl
  have HM := Lib.hid ((Mod.refl [] w).alloc (.cells #[.pointer (some ⟨c, 0, none⟩)] 93))
  have HE := Lib.hid h
  clear h
  go_enter Tryz.func74, Tryz.ntmps74
  go_wp2_with fail
  refine (cwith_tick c N D K r S H T L R C m B w.heap.size now quiet sz l tr es t _ (HE.out.mod0 HM.out) (cell_in (heap_new _ _) rfl) (by have := HE.out.high; simp; omega)).mono ?_
  rintro e w1 ⟨rfl, tr', hc1, ho1, hM1⟩
  have HF := Lib.hid (And.intro hc1 (And.intro ho1 hM1))
  clear hc1 ho1 hM1
  go_wp2
  go_ret
  exact ⟨rfl, tr', HF.out.1, HF.out.2.1, (HM.out.wide (by simp)).trans HF.out.2.2⟩

set_option maxRecDepth 100000 in
set_option maxHeartbeats 4000000 in
theorem cround0 (c N D K r S H T L R C m B : Nat) (now quiet : Int) (sz : Nat) (l tr : Value) (es : List Ent) (t : ByteArray) (w : World) (h : CloudAlone w c N D K r S H T L R C m B now quiet sz l tr es t) :
    Calls Tryz.prog 24 #[.pointer (some ⟨c, 0, none⟩)] w (WithTick w c N D K S H L R B l tr es t) := by
  have u1 := h.cloud.up
  have HE := Lib.hid h
  clear h
  go_enter Tryz.func24, Tryz.ntmps24
  go_wp2_with fail
  refine (blist_is 1 [0] bits_one (by decide) _ HE.out.alone.tab).mono ?_
  rintro e w1 ⟨v, rfl, hO, hM1⟩
  obtain ⟨a, k, rfl, hr, _⟩ := hO.shape
  obtain ⟨ad, rfl, _, hc⟩ := hr (by simp)
  have l0 := hc 0 0 rfl
  simp only [Addr.add, if_true] at l0
  have HM1 := Lib.hid hM1
  have HE1 := Lib.hid (HE.out.mod0 hM1)
  clear hO hr hc hM1 u1
  go_wp2_with fail
  refine wp_loop_rounds 2 ?_
  rw [rounds_succ]
  go_wp2_with fail
  clear l0
  refine (ctick0 c N D K r S H T L R C m B now quiet sz l tr es t _ HE1.out).mono ?_
  rintro e w2 ⟨rfl, tr', hc2, ho2, hM2⟩
  have x66 := hc2.bag
  have HF := Lib.hid (And.intro hc2 (And.intro ho2 hM2))
  clear hc2 ho2 hM2
  go_wp2_with fail
  refine wp_loop_rounds 1 ?_
  rw [rounds_succ]
  go_wp2_with fail
  rw [rounds_succ]
  go_wp2
  go_ret
  exact ⟨rfl, tr', HF.out.1, HF.out.2.1, (HM1.out.wide (by simp)).trans HF.out.2.2⟩

end Go.Proofs.YtaaaiggbnkeblaaGreatDoor

namespace Go.Proofs.YtaaaiggbnkeblaaGreatDoor
set_option linter.unusedSimpArgs false
set_option linter.unusedVariables false
open Go.RowKit

/-- A cloud's block while it is made. -/
structure CloudRaw (w : World) (c : Nat) (v0 : Value) (up : Int) (l tr : Value) : Prop where
  c0 : w.cell? ⟨c, 0, none⟩ = some v0
  n : w.cell? ⟨c, 64, none⟩ = some (.int .i64 1)
  up : w.cell? ⟨c, 65, none⟩ = some (.int .u64 up)
  bag : w.cell? ⟨c, 66, none⟩ = some (.slice none 0 0)
  lots : w.cell? ⟨c, 67, none⟩ = some l
  trace : w.cell? ⟨c, 68, none⟩ = some tr
  free : ∀ j, w.frozen? ⟨c, j, none⟩ = false
theorem CloudRaw.lt {w : World} {c : Nat} {v0 l tr : Value} {up : Int} (h : CloudRaw w c v0 up l tr) : c < w.heap.size := block_lt_of_cell h.c0
theorem CloudRaw.mod {S : List Nat} {w w' : World} {c : Nat} {v0 l tr : Value} {up : Int} (h : CloudRaw w c v0 up l tr) (hm : Mod S w w') (hs : c ∉ S) : CloudRaw w' c v0 up l tr :=
  ⟨hm.at h.c0 hs, hm.at h.n hs, hm.at h.up hs, hm.at h.bag hs, hm.at h.lots hs, hm.at h.trace hs, fun j => (hm.frozen (by exact h.lt) hs).trans (h.free j)⟩
theorem CloudRaw.set0 {w : World} {c : Nat} {v0 l tr : Value} {up : Int} (h : CloudRaw w c v0 up l tr) (v : Value) : CloudRaw (w.setCell ⟨c, 0, none⟩ v) c v up l tr := by
  refine ⟨cell_set_same h.c0, ?_, ?_, ?_, ?_, ?_, fun j => (frozen_set _ _ _ _).trans (h.free j)⟩
  · rw [cell_set_off _ _ _ _ (by simp)]; exact h.n
  · rw [cell_set_off _ _ _ _ (by simp)]; exact h.up
  · rw [cell_set_off _ _ _ _ (by simp)]; exact h.bag
  · rw [cell_set_off _ _ _ _ (by simp)]; exact h.lots
  · rw [cell_set_off _ _ _ _ (by simp)]; exact h.trace
theorem CloudRaw.setUp {w : World} {c : Nat} {v0 l tr : Value} {up : Int} (h : CloudRaw w c v0 up l tr) (v : Int) : CloudRaw (w.setCell ⟨c, 65, none⟩ (.int .u64 v)) c v0 v l tr := by
  refine ⟨?_, ?_, cell_set_same h.up, ?_, ?_, ?_, fun j => (frozen_set _ _ _ _).trans (h.free j)⟩
  · rw [cell_set_off _ _ _ _ (by simp)]; exact h.c0
  · rw [cell_set_off _ _ _ _ (by simp)]; exact h.n
  · rw [cell_set_off _ _ _ _ (by simp)]; exact h.bag
  · rw [cell_set_off _ _ _ _ (by simp)]; exact h.lots
  · rw [cell_set_off _ _ _ _ (by simp)]; exact h.trace
theorem CloudRaw.cloud {w : World} {c N : Nat} {l tr : Value} (h : CloudRaw w c (.pointer (some ⟨N, 0, none⟩)) 1 l tr) : CloudAt w c N l tr := ⟨h.c0, h.n, h.up, h.bag, h.lots, h.trace, h.free⟩

/-- A new cloud of one. -/
structure CloudNew (w : World) (c N D K r S H T L R C m B sz : Nat) (l tr : Value) : Prop where
  cloud : CloudAt w c N l tr
  own : w.ownsRow B 164 9 tr 1 (eflat [⟨0, false, 1, 1, 1, 0, 0, 0, ⟨#[]⟩⟩])
  alone : Alone w N D K r S H T L R C m (.slice none 0 0) 0 0 [] 0 0 0 0 (fun _ => p0) 1 (fun _ => none) sz (fun _ => none) 0 #[] 0
  low : (c < N ∧ c < D ∧ c < K ∧ c < S ∧ c < H ∧ c < L ∧ c < R) ∧ c < r ∧ c < T ∧ c < C ∧ c < m
  high : ((N < B ∧ D < B ∧ K < B ∧ S < B ∧ H < B ∧ L < B ∧ R < B) ∧ B ≤ w.heap.size) ∧ r < B ∧ T < B ∧ C < B ∧ m < B
def CNewPost (w : World) (e : Ending) (w' : World) : Prop :=
  ∃ c N D K r S H T L R C m B sz l tr, e = .returned (.pointer (some ⟨c, 0, none⟩)) ∧ CloudNew w' c N D K r S H T L R C m B sz l tr ∧ w.heap.size ≤ c ∧ Mod [] w w'

theorem Alone.keepN {w w' : World} {N D K r S H T L R C m : Nat} {ev ev' : Value} {now num num' : Int} {Q Q' : List M} {met done quiet low : Int} {ring : Nat → P} {nx : Int} {f : Int → Option Int} {sz : Nat} {lf : Int → Option Int} {lsz : Nat} {re : Array MapEntry} {rc : Nat} {X : List Nat}
    (h : Alone w N D K r S H T L R C m ev now num Q met done quiet low ring nx f sz lf lsz re rc) (x : NodeAt w' N D K (some ⟨S, 0, none⟩) ev' 1) (k : DeskAt w' K 0 num' Q') (hm : Mod X w w') (hX : (D ∉ X ∧ r ∉ X ∧ 1 ∉ X ∧ S ∉ X ∧ H ∉ X ∧ T ∉ X ∧ L ∉ X ∧ R ∉ X) ∧ C ∉ X ∧ m ∉ X) :
    Alone w' N D K r S H T L R C m ev' now num' Q' met done quiet low ring nx f sz lf lsz re rc :=
  ⟨x, h.det.mod hm hX.1.1 hX.1.2.1, k, h.tab.mod hm hX.1.2.2.1, h.sit.mod hm hX.1.2.2.2.1, h.shelf.mod hm hX.1.2.2.2.2.1, h.turn.mod hm hX.1.2.2.2.2.2.1, h.last.mod hm hX.1.2.2.2.2.2.2.1, row_mod hm h.reach hX.1.2.2.2.2.2.2.2, h.clerk.mod hm hX.2.1 hX.2.2, h.sep⟩

theorem cz0 : Tryz.zeroCells152[0]? = some (.pointer none) := by kernel_rfl
theorem cz65 : Tryz.zeroCells152[65]? = some (.int .u64 0) := by kernel_rfl
theorem cz66 : Tryz.zeroCells152[66]? = some (.slice none 0 0) := by kernel_rfl
theorem cz68 : Tryz.zeroCells152[68]? = some (.slice none 0 0) := by kernel_rfl
theorem czs : Tryz.zeroCells152.size = 69 := by decide +kernel
theorem cloud_made {w : World} {l : Value} : CloudRaw (w.alloc (.cells ((Tryz.zeroCells152.setIfInBounds 64 (.int .i64 1)).setIfInBounds 67 l) 152)) w.heap.size (.pointer none) 0 l (.slice none 0 0) := by
  have hh := heap_new w (.cells ((Tryz.zeroCells152.setIfInBounds 64 (.int .i64 1)).setIfInBounds 67 l) 152)
  have hz := czs
  have ho : ∀ j v, j ≠ 64 → j ≠ 67 → Tryz.zeroCells152[j]? = some v → ((Tryz.zeroCells152.setIfInBounds 64 (.int .i64 1)).setIfInBounds 67 l)[j]? = some v := fun j v h1 h2 h => by
    rw [Array.getElem?_setIfInBounds_ne (by omega), Array.getElem?_setIfInBounds_ne (by omega)]
    exact h
  refine ⟨cell_in hh (ho 0 _ (by decide) (by decide) cz0), cell_in hh ?_, cell_in hh (ho 65 _ (by decide) (by decide) cz65), cell_in hh (ho 66 _ (by decide) (by decide) cz66), cell_in hh ?_, cell_in hh (ho 68 _ (by decide) (by decide) cz68), fun j => free_in hh⟩
  · rw [Array.getElem?_setIfInBounds_ne (by decide), Array.getElem?_setIfInBounds_self_of_lt (by rw [hz]; decide)]
  · rw [Array.getElem?_setIfInBounds_self_of_lt (by rw [Array.size_setIfInBounds, hz]; decide)]

set_option maxRecDepth 100000 in
set_option maxHeartbeats 8000000 in
theorem cnew0 (w : World) (ht : Tab w) : Calls Tryz.prog 21 #[.int .i64 1, .int .u64 1, .slice none 0 0] w (CNewPost w) := by
  have HT := Lib.hid ht
  clear ht
  go_enter Tryz.func21, Tryz.ntmps21
  go_wp2_with fail
  refine (new_any none 0 [] _ (fun h => absurd rfl h) (by simp) (by simp)).mono ?_
  rintro e w1 ⟨ld, lg, rfl, _, _, _, hM1⟩
  replace HT := Lib.hid (HT.out.mod hM1 (by simp))
  have HM := Lib.hid hM1
  clear hM1
  go_wp2_with fail
  have hraw := cloud_made (w := w1) (l := .pointer (some ⟨ld, 0, none⟩))
  have hmw := (Mod.refl [] w1).alloc (.cells ((Tryz.zeroCells152.setIfInBounds 64 (.int .i64 1)).setIfInBounds 67 (.pointer (some ⟨ld, 0, none⟩))) 152)
  have h01 := HT.out.1
  replace HT := Lib.hid (HT.out.mod hmw (by simp))
  have HC0 := Lib.hid (show 1 < w1.heap.size ∧ w.heap.size ≤ w1.heap.size ∧ w1.heap.size < (w1.alloc (.cells ((Tryz.zeroCells152.setIfInBounds 64 (.int .i64 1)).setIfInBounds 67 (.pointer (some ⟨ld, 0, none⟩))) 152)).heap.size from ⟨h01, HM.out.size, by simp⟩)
  clear h01
  replace HM := Lib.hid (HM.out.trans hmw)
  have HR := Lib.hid hraw
  clear hraw hmw
  generalize (Tryz.zeroCells152.setIfInBounds 64 (.int .i64 1)).setIfInBounds 67 (.pointer (some ⟨ld, 0, none⟩)) = ZC at HT HC0 HM HR ⊢
  generalize w1.alloc (.cells ZC 152) = w2 at HT HC0 HM HR ⊢
  generalize w1.heap.size = c at HC0 HR ⊢
  refine wp_loop_rounds 2 ?_
  rw [rounds_succ]
  have c0 := HR.out.c0
  have f0 := HR.out.free 0
  have hcl := HR.out.lt
  go_wp2_with fail
  go_region_with (go_at_call 67; refine (newnode0 _).mono ?_; rintro e w3 ⟨N, D, r, K, rfl, hN, hD, hK, hb, hM3⟩; have HM3 := Lib.hid ((Mod.refl [] w2).drew.trans hM3); have HNW := Lib.hid (And.intro hN (And.intro hD (And.intro hK hb))); have k0 := HM3.out.at c0 (by simp); have g0 := (HM3.out.frozen (p := ⟨c, 0, none⟩) hcl (by simp)).trans f0; clear hN hD hK hb hM3)
  have hs3 : Mod [c] w3 (w3.setCell ⟨c, 0, none⟩ (.pointer (some ⟨N, 0, none⟩))) := (Mod.refl _ _).setCell (.inl (by simp)) _
  replace HR := Lib.hid ((HR.out.mod HM3.out (by simp)).set0 (.pointer (some ⟨N, 0, none⟩)))
  replace HT := Lib.hid ((HT.out.mod HM3.out (by simp)).mod hs3 (by have := HC0.out.1; simp; omega))
  obtain ⟨hN, hD, hK, hb⟩ := HNW.out
  have hX : c < D ∧ c < r ∧ D ≠ r ∧ D < K ∧ r < K ∧ K < N := by
    have h1 := HC0.out
    simp at hb
    omega
  replace HNW := Lib.hid (And.intro (hN.mod hs3 (by simp; omega)) (And.intro (hD.mod hs3 (by simp; omega) (by simp; omega)) (And.intro (hK.mod hs3 (by simp; omega)) hX)))
  replace HM := Lib.hid ((HM.out.trans HM3.out).step hs3 (fun x hx => .inr (by have := HC0.out; simp at hx; omega)))
  clear c0 f0 hcl k0 g0 hs3 hN hD hK hb hX HM3
  generalize w3.setCell ⟨c, 0, none⟩ (.pointer (some ⟨N, 0, none⟩)) = w4 at HR HT HNW HM ⊢
  have u0 := HR.out.up
  have f65 := HR.out.free 65
  go_wp2_with fail
  refine (with_is 0 1 0 (by decide) (by decide) _).mono ?_
  rintro e w5 ⟨rfl, rfl⟩
  go_wp2_with fail
  have hs5 : Mod [c] w4 (w4.setCell ⟨c, 65, none⟩ (.int .u64 1)) := (Mod.refl _ _).setCell (.inl (by simp)) _
  obtain ⟨hN, hD, hK, hX⟩ := HNW.out
  replace HR := Lib.hid (HR.out.setUp 1)
  replace HT := Lib.hid (HT.out.mod hs5 (by have := HC0.out.1; simp; omega))
  replace HNW := Lib.hid (And.intro (hN.mod hs5 (by simp; omega)) (And.intro (hD.mod hs5 (by simp; omega) (by simp; omega)) (And.intro (hK.mod hs5 (by simp; omega)) hX)))
  replace HM := Lib.hid (HM.out.step hs5 (fun x hx => .inr (by have := HC0.out; simp at hx; omega)))
  clear u0 f65 hN hD hK hX hs5
  generalize w4.setCell ⟨c, 65, none⟩ (.int .u64 1) = w6 at HR HT HNW HM ⊢
  refine (has_is 1 0 true (by decide) (by decide) _).mono ?_
  rintro e w7 ⟨rfl, rfl⟩
  have c0 := HR.out.c0
  go_wp2_with fail
  obtain ⟨hN, hD, hK, hX⟩ := HNW.out
  refine (found0 N D K r _ hN hD hK HT.out (by omega)).mono ?_
  rintro e w8 ⟨rfl, hI⟩
  obtain ⟨_, S, H, T, L, R, C, m, sz, g, cap, hin, hown, hbd, hap, hM8⟩ := hI
  have hNl := hN.lt
  have hsep : Sep N D K r S H T L R C m := Sep.of (by have := HC0.out.1; omega) hap
  have hal := hin.alone hsep
  have hl8 := hal.lts
  have hc8 := (HR.out.mod hM8 (show c ∉ [N] by simp; omega)).cloud
  have hgN : g ≠ N := by have := (ownsRow_ge hown g rfl).1; omega
  have HAL := Lib.hid hal
  have HC8 := Lib.hid hc8
  have HCE := Lib.hid (ownsRow_cells hown)
  have HLW := Lib.hid (show ((c < N ∧ c < D ∧ c < K ∧ c < S ∧ c < H ∧ c < L ∧ c < R) ∧ c < r ∧ c < T ∧ c < C ∧ c < m) ∧ (((N < w8.heap.size ∧ D < w8.heap.size ∧ K < w8.heap.size ∧ S < w8.heap.size ∧ H < w8.heap.size ∧ L < w8.heap.size ∧ R < w8.heap.size) ∧ w8.heap.size ≤ w8.heap.size) ∧ r < w8.heap.size ∧ T < w8.heap.size ∧ C < w8.heap.size ∧ m < w8.heap.size) ∧ g ≠ N from by omega)
  replace HM := Lib.hid (HM.out.step hM8 (fun x hx => .inr (by have := HC0.out; simp at hx; omega)))
  clear hNl hsep hal hl8 hc8 hgN hN hD hK hX hin hown hbd hap hM8 c0 HR HT HNW
  go_wp2_with fail
  rw [rounds_succ]
  go_wp2_with fail
  refine (cpoll_one c N D K g cap w8.heap.size _ (.slice none 0 0) (some ⟨S, 0, none⟩) 1 [] 1 1 1 0 0 0 ⟨#[]⟩ _ HC8.out HAL.out.node HCE.out ⟨rfl, .inl ⟨rfl, rfl⟩⟩ (by simp) (by have := HLW.out; omega)).mono ?_
  rintro e w9 ⟨rfl, tr, hc9, hn9, ho9, hM9⟩
  have HF := Lib.hid (And.intro hc9 (And.intro hn9 (And.intro ho9 hM9)))
  clear hc9 hn9 ho9 hM9
  go_wp2_with fail
  go_ret
  obtain ⟨hc9, hn9, ho9, hM9⟩ := HF.out
  have hM9 : Mod [c, N] w8 w9 := hM9
  obtain ⟨hlo, hhi, hgN⟩ := HLW.out
  have hs := HAL.out.sep
  have hc0 := HC0.out.1
  refine ⟨c, N, D, K, r, S, H, T, L, R, C, m, w8.heap.size, sz, _, tr, rfl, ⟨hc9, ho9, HAL.out.keepN hn9 (HAL.out.desk.mod hM9 ?_) hM9 ?_, hlo, ⟨⟨hhi.1.1, hM9.size⟩, hhi.2⟩⟩, HC0.out.2.1, HM.out.step hM9 (fun x hx => .inr ?_)⟩
  · have : K ≠ N := by simp [hs]
    simp
    omega
  · have h1 : D ≠ N ∧ r ≠ N ∧ 1 ≠ N ∧ S ≠ N ∧ H ≠ N ∧ T ≠ N ∧ L ≠ N ∧ R ≠ N ∧ C ≠ N ∧ m ≠ N := by simp [hs]
    simp
    omega
  · have := HC0.out
    simp at hx
    omega

end Go.Proofs.YtaaaiggbnkeblaaGreatDoor

namespace Go.Proofs.YtaaaiggbnkeblaaGreatDoor
set_option linter.unusedSimpArgs false
set_option linter.unusedVariables false
open Go.RowKit

theorem eflat_get (es : List Ent) (i : Nat) (e : Ent) (h : es[i]? = some e) (j : Nat) (v : Value) (hv : (ecells e)[j]? = some v) : (eflat es)[i * 9 + j]? = some v := by
  induction es generalizing i with
  | nil => simp at h
  | cons m' t ih =>
    show (ecells m' ++ eflat t)[i * 9 + j]? = some v
    have hj : j < 9 := (List.getElem?_eq_some_iff.1 hv).1
    cases i with
    | zero =>
      obtain rfl : m' = e := by simpa using h
      rw [List.getElem?_append_left (by simp [ecells]; omega)]
      simpa using hv
    | succ i =>
      rw [List.getElem?_append_right (by simp [ecells]; omega)]
      have h2 : (i + 1) * 9 + j - (ecells m').length = i * 9 + j := by simp [ecells]; omega
      rw [h2]
      exact ih i (by simpa using h)
theorem rdes_of {w : World} {B g n cap : Nat} {e : TypeId} {es : List Ent} (h : w.ownsRow B e 9 (.slice (some ⟨g, 0, none⟩) n cap) n (eflat es)) : RdEs w g es := fun i x hi j v hj => ownsRow_cells h _ _ (eflat_get es i x hi j v hj)
theorem eflat_one (es : List Ent) : ∀ u ∈ eflat es, u.oneCell' = true := by
  intro u hu
  unfold eflat at hu
  rw [List.mem_flatMap] at hu
  obtain ⟨e, _, h⟩ := hu
  exact ecells_one e u h

def TracePost (w : World) (es : List Ent) (e : Ending) (w' : World) : Prop := ∃ g cap, e = .returned (.slice (some ⟨g, 0, none⟩) es.length cap) ∧ RdEs w' g es ∧ Mod [] w w'

set_option maxRecDepth 100000 in
set_option maxHeartbeats 4000000 in
theorem cclone (B g k : Nat) (es : List Ent) (w : World) (h : w.ownsRow B 164 9 (.slice (some ⟨g, 0, none⟩) es.length k) es.length (eflat es)) (h0 : 0 < es.length) (hl : es.length ≤ 1000) :
    Calls Tryz.prog 76 #[.slice (some ⟨g, 0, none⟩) es.length k] w (TracePost w es) := by
  have heq := fun w => Lib.run_eql_slice_nil (P := Tryz.prog) w 101 164 (some ⟨g, 0, none⟩) es.length k 0 0 Tryz.underlying101
  simp at heq
  obtain ⟨ie, hie, hiz, his, hib⟩ := infoCEntry
  have HH := Lib.hid h
  have HL := Lib.hid (And.intro h0 hl)
  clear h h0 hl
  go_enter Tryz.func76, Tryz.ntmps76
  have hown : (w.alloc (.cells #[] 164)).ownsRow w.heap.size 164 9 (.slice (some ⟨w.heap.size, 0, none⟩) 0 0) 0 [] := ⟨rfl, .inr ⟨w.heap.size, 0, #[], rfl, Nat.le_refl _, heap_new _ _, Nat.le_refl _, by simp, rfl, rfl⟩⟩
  have hnews : ∀ j u, (eflat es)[j]? = some u → (w.alloc (.cells #[] 164)).cell? ((⟨g, 0, none⟩ : Addr).add j) = some u := fun j u hu => by
    rw [add_lit, Nat.zero_add]
    exact ((Mod.refl [] w).alloc _).at (ownsRow_cells HH.out j u hu) (by simp)
  have hlen : (eflat es).length = es.length * 9 := eflat_len es
  have hmx : 0 + es.length ≤ maxLen := by have := HL.out; unfold maxLen; omega
  have hby : (0 + es.length) * ie.bytes ≤ 140737488355328 := by
    have := Nat.mul_le_mul (show 0 + es.length ≤ 1000 by have := HL.out; omega) hib
    omega
  have hbs : w.heap.size ≤ (w.alloc (.cells #[] 164)).heap.size := by simp
  have HAR := Lib.hid (And.intro hown (And.intro hnews (And.intro hlen (And.intro hmx (And.intro hby hbs)))))
  have HON := Lib.hid (eflat_one es)
  clear hown hnews hlen hmx hby hbs hib
  go_wp2_with (at_builtin; with_reducible refine wpList_append_lies _ rfl (.tmp 5) (.tmp 6) 101 rfl w.heap.size 164 ie _ 9 ie.bytes Tryz.underlying101 hie hiz his rfl rfl (by decide) (.slice (some ⟨w.heap.size, 0, none⟩) 0 0) 0 [] rfl HAR.out.1 ⟨g, 0, none⟩ es.length k (eflat es) rfl HAR.out.2.2.1 HAR.out.2.1 HON.out HL.out.1 HAR.out.2.2.2.1 HAR.out.2.2.2.2.1 HAR.out.2.2.2.2.2 _ rfl ?_; intro g' cap w2 hown hgrow hat hlt2)
  have hM : Mod [] w w2 := Mod.grownRow ((Mod.refl [] w).alloc _) hgrow (fun b hb => .inr (by simp [Value.ownBlock] at hb; omega))
  have HF := Lib.hid (And.intro hown hM)
  clear hown hgrow hat hlt2 hM
  go_wp2
  go_ret
  obtain ⟨hown, hM⟩ := HF.out
  have e0 : (0 + es.length) = es.length := Nat.zero_add _
  rw [e0] at hown
  exact ⟨g', cap, rfl, rdes_of hown, hM⟩

set_option maxRecDepth 100000 in
set_option maxHeartbeats 4000000 in
theorem ctrace (c N B g k : Nat) (l : Value) (es : List Ent) (w : World) (hc : CloudAt w c N l (.slice (some ⟨g, 0, none⟩) es.length k)) (h : w.ownsRow B 164 9 (.slice (some ⟨g, 0, none⟩) es.length k) es.length (eflat es)) (h0 : 0 < es.length) (hl : es.length ≤ 1000) :
    Calls Tryz.prog 26 #[.pointer (some ⟨c, 0, none⟩)] w (TracePost w es) := by
  have x68 := hc.trace
  have HC := Lib.hid (cclone B g k es w h h0 hl)
  clear h h0 hl hc
  go_enter Tryz.func26, Tryz.ntmps26
  go_wp2_with fail
  refine HC.out.mono ?_
  rintro e w1 ⟨g1, k1, rfl, hr, hM⟩
  have HF := Lib.hid (And.intro hr hM)
  clear hr hM
  go_wp2
  go_ret
  exact ⟨g1, k1, rfl, HF.out.1, HF.out.2⟩

/-- The one text that is sent. -/
def xText : ByteArray := ⟨#[120]⟩
def e1 : Ent := ⟨0, false, 1, 1, 1, 0, 0, 0, ⟨#[]⟩⟩
def e2 : Ent := ⟨0, true, 0, 1, 1, 0, 0, 1, xText⟩
def e3 : Ent := ⟨0, false, 2, 1, 1, 1, 0, 1, xText⟩
theorem texts_three : textsOf 0 [e1, e2, e3] = [xText] := rfl

theorem CloudNew.env {w : World} {c N D K r S H T L R C m B sz : Nat} {l tr : Value} (h : CloudNew w c N D K r S H T L R C m B sz l tr) : CloudEnv w c N D K S B l tr [e1] := by
  have hs := h.alone.sep
  have h1 : N ≠ K ∧ S ≠ K := by simp [hs]
  have h2 := h.low
  have h3 := h.high
  exact ⟨h.cloud, h.own, by simp, by omega, by omega⟩

theorem CloudNew.sent {w w' : World} {c N D K r S H T L R C m B sz : Nat} {l tr tr' : Value} (h : CloudNew w c N D K r S H T L R C m B sz l tr) (hc : CloudAt w' c N l tr') (ho : w'.ownsRow B 164 9 tr' 2 (eflat [e1, e2])) (hn : NodeAt w' N D K (some ⟨S, 0, none⟩) (.slice none 0 0) 1) (hk : DeskAt w' K 0 1 [(0, 1, xText)])
    (hm : Mod (c :: K :: N :: tr.ownBlock.toList) w w') : CloudAlone w' c N D K r S H T L R C m B 0 0 sz l tr' [e1, e2] xText := by
  have hs := h.alone.sep
  have h2 := h.low
  have h3 := h.high
  have hno : ∀ x, x < B → x ∉ tr.ownBlock.toList := fun x hx hb => by
    rw [Option.mem_toList] at hb
    have := (ownsRow_ge h.own x hb).1
    omega
  have hX : ∀ x, c ≠ x → x ≠ K → x ≠ N → x < B → x ∉ c :: K :: N :: tr.ownBlock.toList := fun x h1 h2 h3 h4 hb => by
    simp only [List.mem_cons] at hb
    rcases hb with hb | hb | hb | hb
    · exact h1 hb.symm
    · exact h2 hb
    · exact h3 hb
    · exact hno x h4 hb
  have h0 : c ≠ 1 := fun e => by
    have h1 := h.alone.tab.2 0 0 rfl
    have h5 := h.cloud.c0
    rw [e] at h5
    rw [h1] at h5
    cases h5
  have hB0 : 1 < B := by
    have h5 : N ≠ 1 ∧ D ≠ 1 ∧ N ≠ D := by simp [hs]
    omega
  refine ⟨hc, ho, by simp, h.alone.keepN hn hk hm ⟨⟨hX D ?_ ?_ ?_ ?_, hX r ?_ ?_ ?_ ?_, hX 1 h0 ?_ ?_ hB0, hX S ?_ ?_ ?_ ?_, hX H ?_ ?_ ?_ ?_, hX T ?_ ?_ ?_ ?_, hX L ?_ ?_ ?_ ?_, hX R ?_ ?_ ?_ ?_⟩, hX C ?_ ?_ ?_ ?_, hX m ?_ ?_ ?_ ?_⟩, h2.1, ⟨h3.1.1, Nat.le_trans h3.1.2 hm.size⟩, by decide, by decide⟩
  all_goals first | (simp [hs]; done) | omega

set_option maxRecDepth 100000 in
set_option maxHeartbeats 4000000 in
theorem shown_is (w : World) (ht : Tab w) : Calls Tryz.prog 6 #[] w (TruePost w) := by
  have hpn : ∀ (a : Addr) (w : World), (binOp .eql 93 (.pointer (some a)) (.pointer none)).run Tryz.prog w = .ok (.bool false) w := fun a w => by kernel_rfl
  have hpm : ∀ (a : Addr) (w : World), (binOp .eql 95 (.pointer (some a)) (.pointer none)).run Tryz.prog w = .ok (.bool false) w := fun a w => by kernel_rfl
  have HT := Lib.hid ht
  clear ht
  go_enter Tryz.func6, Tryz.ntmps6
  go_wp2_with fail
  refine (cnew0 _ HT.out).mono ?_
  rintro e w1 ⟨c, N, D, K, r, S, H, T, L, R, C, m, B, sz, l, tr, rfl, hnew, hcw, hM1⟩
  have HN := Lib.hid hnew
  have HCW := Lib.hid hcw
  have HM := Lib.hid hM1
  clear hnew hcw hM1
  go_wp2_with fail
  refine (cnode0 c N l tr _ HN.out.cloud).mono ?_
  rintro e w2 ⟨rfl, hw2⟩
  have hw1 := hw2.symm
  clear hw2
  subst hw1
  go_wp2_with fail
  refine (csend0 c N D K S B l tr 0 [] [e1] xText _ HN.out.env HN.out.alone.node HN.out.alone.desk ⟨HN.out.alone.sit.2.1 0 _ rfl, HN.out.alone.sit.2.1 1 _ rfl⟩ (by decide)).mono ?_
  rintro e w3 ⟨rfl, tr3, hc3, ho3, hn3, hk3, hM3⟩
  have HA := Lib.hid (HN.out.sent hc3 ho3 hn3 hk3 hM3)
  replace HM := Lib.hid (HM.out.step hM3 (fun x hx => .inr (by
    have h1 := HCW.out
    have h2 := HN.out.low
    have h3 := HN.out.high
    simp only [List.mem_cons, Option.mem_toList] at hx
    rcases hx with h | h | h | h
    · omega
    · omega
    · omega
    · have := (ownsRow_ge HN.out.own x h).1
      omega)))
  clear hc3 ho3 hn3 hk3 hM3
  go_wp2_with fail
  refine (cround0 c N D K r S H T L R C m B 0 0 sz l tr3 [e1, e2] xText _ HA.out).mono ?_
  rintro e w4 ⟨rfl, tr4, hc4, ho4, hM4⟩
  obtain ⟨g4, k4, rfl⟩ := ownsRow_succ ho4
  replace HM := Lib.hid (HM.out.step hM4 (fun x hx => .inr (by
    have h1 := HCW.out
    have h2 := HN.out.low
    have h3 := HN.out.high
    rcases List.mem_append.1 hx with h | h
    · simp at h
      omega
    · rw [Option.mem_toList] at h
      have := (ownsRow_ge HA.out.own x h).1
      omega)))
  have HC4 := Lib.hid (And.intro hc4 ho4)
  clear hc4 ho4 hM4
  go_wp2_with fail
  refine (ctrace c N B g4 k4 l [e1, e2, e3] _ HC4.out.1 HC4.out.2 (by decide) (by decide)).mono ?_
  rintro e w5 ⟨g5, k5, rfl, hr5, hM5⟩
  replace HM := Lib.hid (HM.out.trans hM5)
  have HR5 := Lib.hid hr5
  clear hr5 hM5
  go_wp2_with fail
  refine (theirs_any g5 k5 [e1, e2, e3] _ HR5.out (by decide)).mono ?_
  rintro e w6 ⟨u, rfl, ho6, hM6⟩
  obtain ⟨g6, k6, rfl⟩ := ownsRow_succ ho6
  replace HM := Lib.hid (HM.out.trans hM6)
  have HR6 := Lib.hid (rdes_of ho6)
  clear ho6 hM6
  go_wp2_with fail
  refine (texts_any g6 k6 0 [e1, e2, e3] _ HR6.out (by decide)).mono ?_
  rintro e w7 ⟨u, rfl, ho7, hM7⟩
  rw [texts_three] at ho7
  obtain ⟨g7, k7, rfl⟩ := ownsRow_succ ho7
  replace HM := Lib.hid (HM.out.trans hM7)
  have x7 : w7.cell? ⟨g7, 0, none⟩ = some (.string xText) := ownsRow_cells ho7 0 _ rfl
  have X7 := Lib.hid x7
  clear ho7 hM7 x7
  go_wp2_with fail
  refine (rsame_one ⟨g7, 0, none⟩ ⟨w7.heap.size, 0, none⟩ _ _ xText _ (((Mod.refl [] w7).alloc _).at X7.out (by simp)) (cell_in (heap_new _ _) rfl)).mono ?_
  rintro e w8 ⟨rfl, hM8⟩
  have HM8 := Lib.hid (HM.out.trans (((Mod.refl [] w7).alloc _).trans hM8))
  clear hM8
  go_wp2
  go_ret
  exact ⟨rfl, HM8.out⟩

end Go.Proofs.YtaaaiggbnkeblaaGreatDoor
