/-
  The walks of a cloud of one: with, Send, Tick, Round.
-/
import Derived.Test.YtpbamamplmbgjaaGreatDoorTopSd
import Derived.Test.YtpbamamplmbgjaaGreatDoorTopTi
namespace Go.Proofs.YtpbamamplmbgjaaGreatDoor
set_option linter.unusedSimpArgs false
set_option linter.unusedVariables false
open Go.RowKit

/-- What stands at a cloud of one ahead of a call. -/
structure CloudEnv (w : World) (c N D K S B : Nat) (l tr : Value) (es : List Ent) : Prop where
  cloud : CloudAt w c N l tr
  own : w.ownsRow B 197 9 tr es.length (eflat es)
  len : es.length ≤ 90
  bnd : c < B ∧ N < B ∧ S < B ∧ K < B ∧ B ≤ w.heap.size
  ne : c ≠ K ∧ c ≠ N ∧ c ≠ S ∧ N ≠ K ∧ S ≠ K

def WithSend (w : World) (c N D K S : Nat) (l tr : Value) (num : Int) (Q : List M) (B : Nat) (es : List Ent) (t : ByteArray) (e : Ending) (w' : World) : Prop :=
  e = .returned (.int .i64 0) ∧ ∃ tr', CloudAt w' c N l tr' ∧ w'.ownsRow B 197 9 tr' (es.length + 1) (eflat (es ++ [⟨0, true, 0, 1, 1, 0, 0, num + 1, t⟩])) ∧ NodeAt w' N D K (some ⟨S, 0, none⟩) (.slice none 0 0) 1 ∧ DeskAt w' K 0 (num + 1) (Q ++ [(0, num + 1, t)]) ∧ Mod (c :: K :: N :: tr.ownBlock.toList) w w'

set_option maxRecDepth 100000 in
set_option maxHeartbeats 4000000 in
theorem cwith_send (c N D K S pt pc pn B : Nat) (l tr : Value) (num : Int) (Q : List M) (es : List Ent) (t : ByteArray) (w : World) (h : CloudEnv w c N D K S B l tr es) (hn : NodeAt w N D K (some ⟨S, 0, none⟩) (.slice none 0 0) 1) (hk : DeskAt w K 0 num Q)
    (hs : w.cell? ⟨S, 0, none⟩ = some (.int .u64 1) ∧ w.cell? ⟨S, 1, none⟩ = some (.int .u64 1)) (hb : w.cell? ⟨pt, 0, none⟩ = some (.string t) ∧ w.cell? ⟨pc, 0, none⟩ = some (.pointer (some ⟨c, 0, none⟩)) ∧ w.cell? ⟨pn, 0, none⟩ = some (.int .i64 0))
    (he : sendErr num Q.length t = 0) (hp : (pc ≠ c ∧ pn ≠ c) ∧ (pc ≠ K ∧ pn ≠ K) ∧ ∀ b, tr.ownBlock = some b → b ≠ pc ∧ b ≠ pn) :
    Calls Tryz.prog 91 #[.pointer (some ⟨c, 0, none⟩), .int .i64 0, .func (.func 92) #[] #[.pointer (some ⟨pt, 0, none⟩), .pointer (some ⟨pc, 0, none⟩), .pointer (some ⟨pn, 0, none⟩)]] w (WithSend w c N D K S l tr num Q B es t) := by
  have n1 := h.cloud.n
  have u1 := h.cloud.up
  have c0 := h.cloud.c0
  have HC := Lib.hid (csend1 c N D K S pt pc pn B l tr (.slice none 0 0) num Q es t w h.cloud hn hk hs hb he h.own (by have := h.len; omega) h.bnd h.ne hp)
  have HE := Lib.hid h
  clear h hn hk hs hb he hp
  go_enter Tryz.func91, Tryz.ntmps91
  go_wp2_with fail
  refine (has_is 1 0 true (by decide) (by decide) _).mono ?_
  rintro e w1 ⟨rfl, rfl⟩
  go_wp2_with fail
  refine HC.out.mono ?_
  rintro e w1 ⟨rfl, tr', hc1, ho1, hn1, hk1, hM1⟩
  have H1 := Lib.hid (And.intro hc1 (And.intro ho1 (And.intro hk1 hM1)))
  have HN1 := Lib.hid hn1
  clear n1 u1 c0 hc1 ho1 hk1 hM1 hn1
  go_wp2_with fail
  refine (cpoll_nil c N D K l tr' (some ⟨S, 0, none⟩) 1 _ H1.out.1 HN1.out).mono ?_
  rintro e w2 ⟨rfl, hn2, hM2⟩
  have H2 := Lib.hid (And.intro hn2 hM2)
  clear hn2 hM2
  go_wp2
  go_ret
  obtain ⟨hc1, ho1, hk1, hM1⟩ := H1.out
  obtain ⟨hn2, hM2⟩ := H2.out
  have hne := HE.out.ne
  have hbd := HE.out.bnd
  refine ⟨rfl, tr', hc1.mod hM2 (by simp; omega), ownsRow_mod ho1 hM2 (fun b hb => by have := (ownsRow_ge ho1 b hb).1; simp; omega), hn2, hk1.mod hM2 (by simp; omega), ?_⟩
  exact (hM1.wide (fun k hk => by simp only [List.mem_cons] at hk ⊢; rcases hk with h | h | h; exact .inl h; exact .inr (.inl h); exact .inr (.inr (.inr h)))).trans (hM2.wide (by simp))

set_option maxRecDepth 100000 in
set_option maxHeartbeats 4000000 in
theorem csend0 (c N D K S B : Nat) (l tr : Value) (num : Int) (Q : List M) (es : List Ent) (t : ByteArray) (w : World) (h : CloudEnv w c N D K S B l tr es) (hn : NodeAt w N D K (some ⟨S, 0, none⟩) (.slice none 0 0) 1) (hk : DeskAt w K 0 num Q)
    (hs : w.cell? ⟨S, 0, none⟩ = some (.int .u64 1) ∧ w.cell? ⟨S, 1, none⟩ = some (.int .u64 1)) (he : sendErr num Q.length t = 0) :
    Calls Tryz.prog 35 #[.pointer (some ⟨c, 0, none⟩), .int .i64 0, .string t] w (WithSend w c N D K S l tr num Q B es t) := by
  have hmf : ∀ fn first cap w, (Instr.makeFunc fn first cap).run Tryz.prog w = .ok (.func fn first cap) w := fun _ _ _ _ => rfl
  have HM := Lib.hid ((((Mod.refl [] w).alloc (.cells #[.pointer (some ⟨c, 0, none⟩)] 104)).alloc (.cells #[.int .i64 0] 3)).alloc (.cells #[.string t] 9))
  have HE := Lib.hid h
  have HN := Lib.hid hn
  have HK := Lib.hid hk
  have HS := Lib.hid hs
  have HSE := Lib.hid he
  clear h hn hk hs he
  go_enter Tryz.func35, Tryz.ntmps35
  go_wp2_with fail
  have hh := HE.out
  have hob : ∀ b, tr.ownBlock = some b → b < w.heap.size := fun b hb => (ownsRow_ge hh.own b hb).2
  have hbd := hh.bnd
  obtain ⟨_, _, hraw, _⟩ := HK.out
  have hKl := hraw.lt
  have hcl := hh.cloud.lt
  have he2 : CloudEnv (((w.alloc (.cells #[.pointer (some ⟨c, 0, none⟩)] 104)).alloc (.cells #[.int .i64 0] 3)).alloc (.cells #[.string t] 9)) c N D K S B l tr es :=
    ⟨hh.cloud.mod HM.out (by simp), ownsRow_mod hh.own HM.out (by simp), hh.len, by simp; omega, hh.ne⟩
  have hc0 := heap_new w (.cells #[.pointer (some ⟨c, 0, none⟩)] 104)
  refine (cwith_send c N D K S (w.heap.size + 1 + 1) w.heap.size (w.heap.size + 1) B l tr num Q es t _ he2 (HN.out.mod HM.out (by simp)) (HK.out.mod HM.out (by simp)) ⟨HM.out.at HS.out.1 (by simp), HM.out.at HS.out.2 (by simp)⟩
    ⟨cell_in (heap_at _ _ _ (by simp)) rfl, cell_in (row_alloc (row_alloc (heap_new _ _))) rfl, cell_in (row_alloc (heap_at _ _ _ (by simp))) rfl⟩ HSE.out ⟨by omega, by omega, fun b hb => by have := hob b hb; omega⟩).mono ?_
  rintro e w1 ⟨rfl, tr', hc1, ho1, hn1, hk1, hM1⟩
  have HF := Lib.hid (And.intro hc1 (And.intro ho1 (And.intro hn1 (And.intro hk1 hM1))))
  clear hh hob hbd hraw hKl hcl he2 hc0 hc1 ho1 hn1 hk1 hM1
  go_wp2
  go_ret
  obtain ⟨hc1, ho1, hn1, hk1, hM1⟩ := HF.out
  exact ⟨rfl, tr', hc1, ho1, hn1, hk1, (HM.out.wide (by simp)).trans hM1⟩

/-- A cloud of one whose node is alone and has sent its first message. -/
structure CloudAlone (w : World) (c N D K r S H T L R C m B : Nat) (now quiet : Int) (sz : Nat) (l tr : Value) (es : List Ent) (t : ByteArray) : Prop where
  cloud : CloudAt w c N l tr
  own : w.ownsRow B 197 9 tr es.length (eflat es)
  len : es.length ≤ 90
  alone : Alone w N D K r S H T L R C m (.slice none 0 0) now 1 [(0, 1, t)] 0 0 quiet 0 (fun _ => p0) 1 (fun _ => none) sz (fun _ => none) 0 #[] 0
  low : c < N ∧ c < D ∧ c < K ∧ c < S ∧ c < H ∧ c < L ∧ c < R
  high : (N < B ∧ D < B ∧ K < B ∧ S < B ∧ H < B ∧ L < B ∧ R < B) ∧ B ≤ w.heap.size
  text : t.size ≤ 64
  num : (0 ≤ now ∧ now < 1000) ∧ 0 ≤ quiet ∧ quiet < 1000

theorem CloudAlone.mod0 {w w' : World} {c N D K r S H T L R C m B : Nat} {now quiet : Int} {sz : Nat} {l tr : Value} {es : List Ent} {t : ByteArray} (h : CloudAlone w c N D K r S H T L R C m B now quiet sz l tr es t) (hm : Mod [] w w') : CloudAlone w' c N D K r S H T L R C m B now quiet sz l tr es t :=
  ⟨h.cloud.mod hm (by simp), ownsRow_mod h.own hm (by simp), h.len, h.alone.mod0 hm, h.low, ⟨h.high.1, Nat.le_trans h.high.2 hm.size⟩, h.text, h.num⟩

def Tick1Post (w : World) (c N D K S H L R : Nat) (l tr : Value) (t : ByteArray) (e : Ending) (w' : World) : Prop :=
  e = .returned (.int .i64 0) ∧ ∃ g cap, CloudAt w' c N l tr ∧ NodeAt w' N D K (some ⟨S, 0, none⟩) (.slice (some ⟨g, 0, none⟩) 1 cap) 1 ∧ (∀ j v, (evcells ⟨0, false, 2, 1, 1, 1, 0, 1, t⟩)[j]? = some v → w'.cell? ⟨g, j, none⟩ = some v) ∧ w.heap.size ≤ g ∧ Mod [N, D, K, S, H, L, R] w w'

set_option maxRecDepth 100000 in
set_option maxHeartbeats 4000000 in
theorem ctick1 (c N D K r S H T L R C m B pc : Nat) (now quiet : Int) (sz : Nat) (l tr : Value) (es : List Ent) (t : ByteArray) (w : World) (h : CloudAlone w c N D K r S H T L R C m B now quiet sz l tr es t)
    (hb : w.cell? ⟨pc, 0, none⟩ = some (.pointer (some ⟨c, 0, none⟩))) (hp : pc ∉ [N, D, K, S, H, L, R]) :
    Calls Tryz.prog 149 #[.pointer (some ⟨N, 0, none⟩), .pointer (some ⟨pc, 0, none⟩)] w (Tick1Post w c N D K S H L R l tr t) := by
  have HC := Lib.hid h
  have HP := Lib.hid hp
  have x67 := h.cloud.lots
  have HCN := Lib.hid (show c ∉ [N, D, K, S, H, L, R] from by have := h.low; simp; omega)
  clear h hp
  go_enter Tryz.func149, Tryz.ntmps149
  go_wp2_with fail
  go_region_held3 (fun w' => w'.cell? ⟨pc, 0, none⟩ = some (.pointer (some ⟨c, 0, none⟩)) ∧ w'.cell? ⟨c, 67, none⟩ = some l) (first | exact ⟨hb, x67⟩ | exact ⟨HM5.out.at hb HP.out, HM5.out.at x67 HCN.out⟩) ((first | (go_at_call 151; refine (ntick1 N D K r S H T L R C m now quiet sz l t _ (HC.out.alone.mod0 (Mod.refl [] _).drew) HC.out.text HC.out.num.1 HC.out.num.2).mono ?_; rintro e w5 ⟨g, cap, rfl, hn5, hev, hg, hM5⟩; have HM5 := Lib.hid ((Mod.refl [N, D, K, S, H, L, R] w).drew.trans hM5); have HF := Lib.hid (And.intro hn5 (And.intro hev hg)); clear hn5 hev hg hM5) | (go_at_call 150; refine (cput_nil _ _ _ _).mono ?_; rintro e w6 ⟨rfl, hw6⟩; have hw5 := hw6.symm; clear hw6; subst hw5)))
  go_wp2
  go_ret
  obtain ⟨hn5, hev, hg⟩ := HF.out
  exact ⟨rfl, g, cap, HC.out.cloud.mod HM5.out HCN.out, hn5, hev, hg, HM5.out⟩

def WithTick (w : World) (c N D K S H L R B : Nat) (l tr : Value) (es : List Ent) (t : ByteArray) (e : Ending) (w' : World) : Prop :=
  e = .returned (.int .i64 0) ∧ ∃ tr', CloudAt w' c N l tr' ∧ w'.ownsRow B 197 9 tr' (es.length + 1) (eflat (es ++ [⟨0, false, 2, 1, 1, 1, 0, 1, t⟩])) ∧ Mod ([c, N, D, K, S, H, L, R] ++ tr.ownBlock.toList) w w'

set_option maxRecDepth 100000 in
set_option maxHeartbeats 4000000 in
theorem cwith_tick (c N D K r S H T L R C m B pc : Nat) (now quiet : Int) (sz : Nat) (l tr : Value) (es : List Ent) (t : ByteArray) (w : World) (h : CloudAlone w c N D K r S H T L R C m B now quiet sz l tr es t)
    (hb : w.cell? ⟨pc, 0, none⟩ = some (.pointer (some ⟨c, 0, none⟩))) (hp : pc ∉ [N, D, K, S, H, L, R]) :
    Calls Tryz.prog 91 #[.pointer (some ⟨c, 0, none⟩), .int .i64 0, .func (.func 149) #[] #[.pointer (some ⟨pc, 0, none⟩)]] w (WithTick w c N D K S H L R B l tr es t) := by
  have n1 := h.cloud.n
  have u1 := h.cloud.up
  have c0 := h.cloud.c0
  have HC := Lib.hid (ctick1 c N D K r S H T L R C m B pc now quiet sz l tr es t w h hb hp)
  have HE := Lib.hid h
  clear h hb hp
  go_enter Tryz.func91, Tryz.ntmps91
  go_wp2_with fail
  refine (has_is 1 0 true (by decide) (by decide) _).mono ?_
  rintro e w1 ⟨rfl, rfl⟩
  go_wp2_with fail
  refine HC.out.mono ?_
  rintro e w1 ⟨rfl, g, cap, hc1, hn1, hev, hg, hM1⟩
  have ho1 := ownsRow_mod HE.out.own hM1 (fun b hb => by have := (ownsRow_ge HE.out.own b hb).1; have := HE.out.high; simp; omega)
  have HX := Lib.hid (show c < B ∧ N < B ∧ B ≤ w1.heap.size ∧ c ≠ N ∧ g ≠ N from by
    have h1 := HE.out.high
    have h2 := HE.out.low
    have h3 := hM1.size
    omega)
  have H1 := Lib.hid (And.intro hc1 (And.intro hn1 (And.intro hev (And.intro ho1 hM1))))
  clear n1 u1 c0 hc1 hn1 hev hg hM1 ho1
  go_wp2_with fail
  refine (cpoll_one c N D K g cap B l tr (some ⟨S, 0, none⟩) 1 es 2 1 1 1 0 1 t _ H1.out.1 H1.out.2.1 H1.out.2.2.1 H1.out.2.2.2.1 (by have := HE.out.len; omega) HX.out).mono ?_
  rintro e w2 ⟨rfl, tr', hc2, _, ho2, hM2⟩
  have H2 := Lib.hid (And.intro hc2 (And.intro ho2 hM2))
  clear hc2 ho2 hM2
  go_wp2
  go_ret
  obtain ⟨hc2, ho2, hM2⟩ := H2.out
  refine ⟨rfl, tr', hc2, ho2, (H1.out.2.2.2.2.wide (fun k hk => ?_)).trans (hM2.wide (fun k hk => ?_))⟩
  · simp at hk ⊢
    omega
  · simp only [List.mem_cons] at hk
    rcases hk with h | h | h
    · simp [h]
    · simp [h]
    · simp only [List.mem_append]; exact .inr h

set_option maxRecDepth 100000 in
set_option maxHeartbeats 4000000 in
theorem ctick0 (c N D K r S H T L R C m B : Nat) (now quiet : Int) (sz : Nat) (l tr : Value) (es : List Ent) (t : ByteArray) (w : World) (h : CloudAlone w c N D K r S H T L R C m B now quiet sz l tr es t) :
    Calls Tryz.prog 95 #[.pointer (some ⟨c, 0, none⟩), .int .i64 0] w (WithTick w c N D K S H L R B l tr es t) := by
  have hmf : ∀ fn first cap w, (Instr.makeFunc fn first cap).run Tryz.prog w = .ok (.func fn first cap) w := fun _ _ _ _ => rfl
  have HM := Lib.hid ((Mod.refl [] w).alloc (.cells #[.pointer (some ⟨c, 0, none⟩)] 104))
  have HE := Lib.hid h
  clear h
  go_enter Tryz.func95, Tryz.ntmps95
  go_wp2_with fail
  refine (cwith_tick c N D K r S H T L R C m B w.heap.size now quiet sz l tr es t _ (HE.out.mod0 HM.out) (cell_in (heap_new _ _) rfl) (by have := HE.out.high; simp; omega)).mono ?_
  rintro e w1 ⟨rfl, tr', hc1, ho1, hM1⟩
  have HF := Lib.hid (And.intro hc1 (And.intro ho1 hM1))
  clear hc1 ho1 hM1
  go_wp2
  go_ret
  exact ⟨rfl, tr', HF.out.1, HF.out.2.1, (HM.out.wide (by simp)).trans HF.out.2.2⟩

set_option maxRecDepth 100000 in
set_option maxHeartbeats 4000000 in
theorem cround0 (c N D K r S H T L R C m B : Nat) (now quiet : Int) (sz : Nat) (l tr : Value) (es : List Ent) (t : ByteArray) (w : World) (h : CloudAlone w c N D K r S H T L R C m B now quiet sz l tr es t) :
    Calls Tryz.prog 36 #[.pointer (some ⟨c, 0, none⟩)] w (WithTick w c N D K S H L R B l tr es t) := by
  have u1 := h.cloud.up
  have HE := Lib.hid h
  clear h
  go_enter Tryz.func36, Tryz.ntmps36
  go_wp2_with fail
  refine (blist_is 1 [0] bits_one (by decide) _ HE.out.alone.tab).mono ?_
  rintro e w1 ⟨v, rfl, hO, hM1⟩
  obtain ⟨a, k, rfl, hr, _⟩ := hO.shape
  obtain ⟨ad, rfl, _, hc⟩ := hr (by simp)
  have l0 := hc 0 0 rfl
  simp only [Addr.add, if_true] at l0
  have HM1 := Lib.hid hM1
  have HE1 := Lib.hid (HE.out.mod0 hM1)
  clear hO hr hc hM1 u1
  go_wp2_with fail
  refine wp_loop_rounds 2 ?_
  rw [rounds_succ]
  go_wp2_with fail
  clear l0
  refine (ctick0 c N D K r S H T L R C m B now quiet sz l tr es t _ HE1.out).mono ?_
  rintro e w2 ⟨rfl, tr', hc2, ho2, hM2⟩
  have x66 := hc2.bag
  have HF := Lib.hid (And.intro hc2 (And.intro ho2 hM2))
  clear hc2 ho2 hM2
  go_wp2_with fail
  refine wp_loop_rounds 1 ?_
  rw [rounds_succ]
  go_wp2_with fail
  rw [rounds_succ]
  go_wp2
  go_ret
  exact ⟨rfl, tr', HF.out.1, HF.out.2.1, (HM1.out.wide (by simp)).trans HF.out.2.2⟩

end Go.Proofs.YtpbamamplmbgjaaGreatDoor
