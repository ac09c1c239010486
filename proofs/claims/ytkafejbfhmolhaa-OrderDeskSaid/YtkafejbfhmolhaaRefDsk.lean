/-
  The walks of conventicleref18's Desk: NewDesk, Num, Send.
-/
import Derived.Test.YtkafejbfhmolhaaMsgSl
import Derived.Test.YtkafejbfhmolhaaDeskB
import Derived.Deep.QuietTactic
import Derived.BigQuiet
namespace Go.Proofs.Ytkafejbfhmolhaa
open Go.RowKit

def RefDeskAt (B : Nat) (G : List Nat) (w : World) (r : Nat) (me num : Int) (L : List M) : Prop :=
  ∃ a c, w.cell? ⟨r, 0, none⟩ = some (.int .i64 me) ∧ w.cell? ⟨r, 1, none⟩ = some (.int .u64 num) ∧ w.cell? ⟨r, 2, none⟩ = some (.slice a L.length c) ∧ w.frozen? ⟨r, 1, none⟩ = false ∧ w.frozen? ⟨r, 2, none⟩ = false ∧
    r < w.heap.size ∧ r ∈ G ∧ SlMs B G w a c L ∧ 0 ≤ num ∧ num ≤ 18446744073709551615 ∧ L.length ≤ 8

theorem RefDeskAt.mod {B : Nat} {G S : List Nat} {w w' : World} {r : Nat} {me num : Int} {L : List M} (h : RefDeskAt B G w r me num L) (hm : Mod S w w') (hr : r ∉ S) (hS : ∀ s ∈ S, s ∈ G ∨ s < B) : RefDeskAt B G w' r me num L := by
  obtain ⟨a, c, h1, h2, h3, h4, h5, h6, h7, h8, h9⟩ := h
  exact ⟨a, c, (hm.cell h6 hr).trans h1, (hm.cell h6 hr).trans h2, (hm.cell h6 hr).trans h3, (hm.frozen h6 hr).trans h4, (hm.frozen h6 hr).trans h5, Nat.lt_of_lt_of_le h6 hm.size, h7, h8.mod hm hS, h9⟩
theorem RefDeskAt.same {B : Nat} {G : List Nat} {w w' : World} {r : Nat} {me num : Int} {L : List M} (h : RefDeskAt B G w r me num L) (hm : Mod [] w w') : RefDeskAt B G w' r me num L := h.mod hm (by simp) (by simp)

set_option maxHeartbeats 400000 in
theorem rdnode_is (n : Int) (b : Bool) (w : World) (h : isNode n = b) : Calls Try.prog 19 #[.int .i64 n] w fun e w' => e = .returned (.bool b) ∧ w = w' := by
  by_cases h0 : 0 ≤ n
  · by_cases h1 : n < 64
    · have hb : b = true := by rw [← h]; simp [isNode, h0, h1]
      subst hb
      clear h
      go_enter Try.func19, Try.ntmps19
      go_wp2
      go_ret
      exact ⟨rfl, rfl⟩
    · have hb : b = false := by rw [← h]; simp [isNode]; omega
      subst hb
      clear h
      go_enter Try.func19, Try.ntmps19
      go_wp2
      go_ret
      exact ⟨rfl, rfl⟩
  · have hb : b = false := by rw [← h]; simp [isNode]; omega
    subst hb
    clear h
    go_enter Try.func19, Try.ntmps19
    go_wp2
    go_ret
    exact ⟨rfl, rfl⟩

set_option maxHeartbeats 1000000 in
theorem rnewdesk_nil (me num : Int) (w : World) (hb : isNode me = false) :
    Calls Try.prog 6 #[.int .i64 me, .int .u64 num] w fun e w' => e = .returned (.pointer none) ∧ w = w' := by
  have HB := Lib.hid hb
  clear hb
  go_enter Try.func6, Try.ntmps6
  go_wp2_with (go_at_call 19; refine (rdnode_is me false _ HB.out).mono ?_; rintro e w1 ⟨rfl, rfl⟩)
  go_ret
  exact ⟨rfl, rfl⟩

def RNewDeskPost (w : World) (me num : Int) (e : Ending) (w' : World) : Prop :=
  e = .returned (.pointer (some ⟨w.heap.size, 0, none⟩)) ∧ (∀ B G, w.heap.size ∈ G → RefDeskAt B G w' w.heap.size me num []) ∧ Mod [] w w'

set_option maxHeartbeats 1000000 in
theorem rnewdesk_any (me num : Int) (w : World) (hb : isNode me = true) (h0 : 0 ≤ num) (h1 : num ≤ 18446744073709551615) :
    Calls Try.prog 6 #[.int .i64 me, .int .u64 num] w (RNewDeskPost w me num) := by
  have HB := Lib.hid hb
  have H1 := Lib.hid h1
  clear hb h1
  go_enter Try.func6, Try.ntmps6
  go_wp2_with (go_at_call 19; refine (rdnode_is me true _ HB.out).mono ?_; rintro e w1 ⟨rfl, rfl⟩)
  go_ret
  exact ⟨rfl, fun B G hG => ⟨none, 0, cell_in (heap_new _ _) rfl, cell_in (heap_new _ _) rfl, cell_in (heap_new _ _) rfl, free_in (heap_new _ _), free_in (heap_new _ _), by simp, hG, SlMs.nil _ _ _, h0, H1.out, by simp⟩, (Mod.refl _ _).alloc _⟩

set_option maxHeartbeats 1000000 in
theorem rdnum_any (B : Nat) (G : List Nat) (r : Nat) (me num : Int) (L : List M) (w : World) (h : RefDeskAt B G w r me num L) :
    Calls Try.prog 15 #[.pointer (some ⟨r, 0, none⟩)] w fun e w' => e = .returned (.int .u64 num) ∧ w = w' := by
  obtain ⟨a, c, h1, h2, _⟩ := h
  clear h1
  go_enter Try.func15, Try.ntmps15
  go_wp2
  go_ret
  exact ⟨rfl, rfl⟩

def RSendPost (B : Nat) (G : List Nat) (w : World) (r : Nat) (me num : Int) (L : List M) (t : ByteArray) (e : Ending) (w' : World) : Prop :=
  e = .returned (.tuple #[mval (if sendErr num L.length t = 0 then (me, num + 1, t) else m0), .int .i64 (sendErr num L.length t)]) ∧ ModG B G r w w' ∧
    RefDeskAt B G w' r me (if sendErr num L.length t = 0 then num + 1 else num) (if sendErr num L.length t = 0 then L ++ [(me, num + 1, t)] else L)

theorem rsend_same {B : Nat} {G : List Nat} {w w' : World} {r : Nat} {me num er : Int} {L : List M} {t : ByteArray} (h : RefDeskAt B G w r me num L) (he : sendErr num L.length t = er) (h0 : er ≠ 0) (hm : Mod [] w w') :
    RSendPost B G w r me num L t (.returned (.tuple #[mval m0, .int .i64 er])) w' := by
  subst he
  refine ⟨by rw [if_neg h0], ⟨[], hm, by simp⟩, ?_⟩
  rw [if_neg h0, if_neg h0]
  exact h.same hm

theorem rsend_fin {B : Nat} {G : List Nat} {w w2 w4 : World} {r many c c' : Nat} {me num : Int} {L : List M} {t : ByteArray} {a a' : Option Addr} {S4 : List Nat} {o : Obj} (HE : sendErr num L.length t = 0) (HM : L.length = many)
    (hsl : SlMs B ([w.heap.size] ++ G) w4 a' c' (L ++ [(me, num + 1, t)])) (hS : ∀ s ∈ S4, B ≤ s ∧ s ∉ [w.heap.size] ++ G ∧ ∃ ad, a = some ad ∧ ad.block = s) (hM : Mod S4 (w2.alloc o).drew w4) (hm2 : Mod [r] w w2) (hr : r < w.heap.size) (hrG : r ∈ G) (hB : B ≤ w.heap.size)
    (n0 : 0 ≤ num) (n1 : num ≤ 18446744073709551615) (h8 : many < 8) (q0 : w4.cell? ⟨r, 0, none⟩ = some (.int .i64 me)) (q1 : w4.cell? ⟨r, 1, none⟩ = some (.int .u64 (num + 1))) (q2 : w4.cell? ⟨r, 2, none⟩ = some (.slice a many c)) (g1 : w4.frozen? ⟨r, 1, none⟩ = false) (g2 : w4.frozen? ⟨r, 2, none⟩ = false)
    (hz : w4.heap[w.heap.size]? = some (.cells #[.int .i64 0, .int .u64 0, .string ⟨#[]⟩] 30)) :
    RSendPost B G w r me num L t (.returned (.tuple #[mval (me, num + 1, t), .int .i64 0])) ((((w4.setCell ⟨r, 2, none⟩ (.slice a' (many + 1) c')).setCell ⟨w.heap.size, 0, none⟩ (.int .i64 me)).setCell ⟨w.heap.size, 1, none⟩ (.int .u64 (num + 1))).setCell ⟨w.heap.size, 2, none⟩ (.string t)) ∧
    ((((w4.setCell ⟨r, 2, none⟩ (.slice a' (many + 1) c')).setCell ⟨w.heap.size, 0, none⟩ (.int .i64 me)).setCell ⟨w.heap.size, 1, none⟩ (.int .u64 (num + 1))).setCell ⟨w.heap.size, 2, none⟩ (.string t)).cell? ⟨w.heap.size, 0, none⟩ = some (.int .i64 me) ∧
    ((((w4.setCell ⟨r, 2, none⟩ (.slice a' (many + 1) c')).setCell ⟨w.heap.size, 0, none⟩ (.int .i64 me)).setCell ⟨w.heap.size, 1, none⟩ (.int .u64 (num + 1))).setCell ⟨w.heap.size, 2, none⟩ (.string t)).cell? ⟨w.heap.size, 1, none⟩ = some (.int .u64 (num + 1)) ∧
    ((((w4.setCell ⟨r, 2, none⟩ (.slice a' (many + 1) c')).setCell ⟨w.heap.size, 0, none⟩ (.int .i64 me)).setCell ⟨w.heap.size, 1, none⟩ (.int .u64 (num + 1))).setCell ⟨w.heap.size, 2, none⟩ (.string t)).cell? ⟨w.heap.size, 2, none⟩ = some (.string t) := by
  have hne : r ≠ w.heap.size := by omega
  have hz5 : (w4.setCell ⟨r, 2, none⟩ (.slice a' (many + 1) c')).heap[w.heap.size]? = some (.cells #[.int .i64 0, .int .u64 0, .string ⟨#[]⟩] 30) := (Below.heap_setCell _ _ _ _ (by simp; omega)).trans hz
  have z0 := cell_in (j := 0) (v := .int .i64 0) hz5 rfl
  have z1 := cell_in (j := 1) (v := .int .u64 0) hz5 rfl
  have z2 := cell_in (j := 2) (v := .string ⟨#[]⟩) hz5 rfl
  have hnum : num ≠ 18446744073709551615 := by
    intro e
    unfold sendErr at HE
    rw [HM, e] at HE
    split at HE
    · cases HE
    · rw [if_neg (by omega), if_pos rfl] at HE
      cases HE
  have hmz : Mod [w.heap.size] (w4.setCell ⟨r, 2, none⟩ (.slice a' (many + 1) c')) ((((w4.setCell ⟨r, 2, none⟩ (.slice a' (many + 1) c')).setCell ⟨w.heap.size, 0, none⟩ (.int .i64 me)).setCell ⟨w.heap.size, 1, none⟩ (.int .u64 (num + 1))).setCell ⟨w.heap.size, 2, none⟩ (.string t)) :=
    (((Mod.refl _ _).setCell (.inl (by simp)) _).setCell (.inl (by simp)) _).setCell (.inl (by simp)) _
  have hr4 : r < w4.heap.size := block_lt_of_cell q0
  have hr5 : r < (w4.setCell ⟨r, 2, none⟩ (.slice a' (many + 1) c')).heap.size := by simpa [World.setCell] using hr4
  refine ⟨⟨by rw [if_pos HE, HE], ⟨r :: S4, ?_, ?_⟩, ?_⟩, ?_, ?_, ?_⟩
  · have m1 : Mod (r :: S4) w w2 := hm2.mono (fun k _ hk => by simp at hk; simp [hk])
    have m2 : Mod (r :: S4) w w4 := (((m1.alloc o).drew).step hM (fun s hs => .inl (by simp [hs])))
    have m3 : Mod (r :: S4) w (w4.setCell ⟨r, 2, none⟩ (.slice a' (many + 1) c')) := m2.setCell (.inl (by simp)) _
    exact m3.step hmz (fun s hs => .inr (by simp at hs; omega))
  · intro s hs
    rcases List.mem_cons.1 hs with h | h
    · exact .inl h
    · obtain ⟨h1, h2, _⟩ := hS s h
      exact .inr ⟨h1, fun h => h2 (List.mem_append_right _ h)⟩
  · rw [if_pos HE, if_pos HE]
    refine ⟨a', c', ?_, ?_, ?_, ?_, ?_, Nat.lt_of_lt_of_le hr5 hmz.size, hrG, ?_, by omega, by omega, by simp; omega⟩
    · exact (hmz.cell hr5 (by simpa using hne)).trans ((cell_set_off _ _ _ _ (by simp)).trans q0)
    · exact (hmz.cell hr5 (by simpa using hne)).trans ((cell_set_off _ _ _ _ (by simp)).trans q1)
    · refine (hmz.cell hr5 (by simpa using hne)).trans ((cell_set_same q2).trans ?_)
      simp [HM]
    · exact (hmz.frozen hr5 (by simpa using hne)).trans ((World.frozen?_setCell _ _ _ _).trans g1)
    · exact (hmz.frozen hr5 (by simpa using hne)).trans ((World.frozen?_setCell _ _ _ _).trans g2)
    · exact ((hsl.mod ((Mod.refl [r] w4).setCell (.inl (by simp)) _) (by intro s hs; simp at hs; subst hs; exact .inl (List.mem_append_right _ hrG))).mod hmz (by intro s hs; simp at hs; subst hs; exact .inl (by simp))).less
  · rw [cell_set_off _ _ _ _ (by simp), cell_set_off _ _ _ _ (by simp)]
    exact cell_set_same z0
  · rw [cell_set_off _ _ _ _ (by simp)]
    refine cell_set_same (u := .int .u64 0) ?_
    rw [cell_set_off _ _ _ _ (by simp)]
    exact z1
  · refine cell_set_same (u := .string ⟨#[]⟩) ?_
    rw [cell_set_off _ _ _ _ (by simp), cell_set_off _ _ _ _ (by simp)]
    exact z2

set_option maxRecDepth 100000 in
set_option maxHeartbeats 4000000 in
theorem rsend_any (B : Nat) (G : List Nat) (r : Nat) (me num : Int) (L : List M) (t : ByteArray) (w : World) (h : RefDeskAt B G w r me num L) (hG : ∀ s ∈ G, s < w.heap.size) (hB : B ≤ w.heap.size) :
    Calls Try.prog 8 #[.pointer (some ⟨r, 0, none⟩), .string t] w (RSendPost B G w r me num L t) := by
  have H := Lib.hid h
  obtain ⟨a, c, c0, c1, c2, f1, f2, hr, hrG, hsl, n0, n1, hl8⟩ := h
  obtain ⟨many, hmany⟩ : ∃ many, L.length = many := ⟨_, rfl⟩
  rw [hmany] at c2 hl8
  obtain ⟨z, hz⟩ : ∃ z, t.size = z := ⟨_, rfl⟩
  have HSL := Lib.hid hsl
  have HG := Lib.hid hG
  have HM := Lib.hid hmany
  have HRG := Lib.hid hrG
  clear hsl hG hmany hrG
  by_cases ht64 : 64 < z
  · have he : sendErr num L.length t = 12 := by unfold sendErr; rw [if_pos (by omega)]
    have HE := Lib.hid he
    clear he
    go_enter Try.func8, Try.ntmps8
    go_wp2_with fail
    refine bodyPost_ret (v := .tuple #[mval m0, .int .i64 12]) (by simp [results, Try.results8, go_sem, mval, m0, mcells]; rfl) rfl ?_
    exact rsend_same H.out HE.out (by decide) ((Mod.refl _ _).alloc _)
  have htd : decide ((64:Int) < (z:Int)) = false := by simp; omega
  by_cases hm8 : many = 8
  · have he : sendErr num L.length t = 180 := by unfold sendErr; rw [if_neg (by omega), HM.out, if_pos (by omega)]
    have HE := Lib.hid he
    clear he
    subst hm8
    go_enter Try.func8, Try.ntmps8
    go_wp2_with fail
    refine bodyPost_ret (v := .tuple #[mval m0, .int .i64 180]) (by simp [results, Try.results8, go_sem, mval, m0, mcells]; rfl) rfl ?_
    exact rsend_same H.out HE.out (by decide) ((Mod.refl _ _).alloc _)
  have hmd : decide ((8:Int) ≤ (many:Int)) = false := by simp; omega
  by_cases hnx : num = 18446744073709551615
  · have he : sendErr num L.length t = 60 := by unfold sendErr; rw [if_neg (by omega), HM.out, if_neg (by omega), if_pos hnx]
    have HE := Lib.hid he
    clear he
    subst hnx
    go_enter Try.func8, Try.ntmps8
    go_wp2_with fail
    refine bodyPost_ret (v := .tuple #[mval m0, .int .i64 60]) (by simp [results, Try.results8, go_sem, mval, m0, mcells]; rfl) rfl ?_
    exact rsend_same H.out HE.out (by decide) ((Mod.refl _ _).alloc _)
  have hnd : (num == 18446744073709551615) = false := by simpa using hnx
  have hx1 : (num + 1) % 18446744073709551616 = num + 1 := by omega
  have he : sendErr num L.length t = 0 := by unfold sendErr; rw [if_neg (by omega), HM.out, if_neg (by omega), if_neg hnx]
  have hs1 := cell_set_same (v := .int .u64 (num + 1)) (show (w.alloc (.cells #[.int .i64 0, .int .u64 0, .string ByteArray.empty] 30)).cell? ⟨r, 1, none⟩ = some (.int .u64 num) from (((Mod.refl [] w).alloc _).cell hr (by simp)).trans c1)
  have HE := Lib.hid he
  clear he
  go_enter Try.func8, Try.ntmps8
  go_wp2_with fail
  go_region
  have hsl2 : SlMs B ([w.heap.size] ++ G) (((w.setCell ⟨r, 1, none⟩ (.int .u64 (num + 1))).alloc (.cells #[.int .i64 0, .int .u64 0, .string ⟨#[]⟩] 30)).alloc (.cells #[.int .i64 me, .int .u64 (num + 1), .string t] 30)).drew a c L :=
    (HSL.out.more [w.heap.size] (by simp)).mod (((((Mod.refl [r] w).setCell (.inl (by simp)) _).alloc _).alloc _).drew) (by intro s hs; simp at hs; subst hs; exact .inl (List.mem_append_right _ HRG.out))
  have hm2 : Mod [r] w (((w.setCell ⟨r, 1, none⟩ (.int .u64 (num + 1))).alloc (.cells #[.int .i64 0, .int .u64 0, .string ⟨#[]⟩] 30)).alloc (.cells #[.int .i64 me, .int .u64 (num + 1), .string t] 30)).drew := (((((Mod.refl [r] w).setCell (.inl (by simp)) _).alloc _).alloc _).drew)
  have hsz : (w.setCell ⟨r, 1, none⟩ (.int .u64 (num + 1))).heap.size = w.heap.size := by simp [World.setCell]
  have hb2 : (((w.setCell ⟨r, 1, none⟩ (.int .u64 (num + 1))).alloc (.cells #[.int .i64 0, .int .u64 0, .string ⟨#[]⟩] 30)).alloc (.cells #[.int .i64 me, .int .u64 (num + 1), .string t] 30)).drew.heap[w.heap.size + 1]? = some (.cells #[.int .i64 me, .int .u64 (num + 1), .string t] 30) := by
    have := heap_top (w.setCell ⟨r, 1, none⟩ (.int .u64 (num + 1))) (.cells #[.int .i64 0, .int .u64 0, .string ⟨#[]⟩] 30) (.cells #[.int .i64 me, .int .u64 (num + 1), .string t] 30)
    rw [hsz] at this
    exact this
  have hb1 : (((w.setCell ⟨r, 1, none⟩ (.int .u64 (num + 1))).alloc (.cells #[.int .i64 0, .int .u64 0, .string ⟨#[]⟩] 30)).alloc (.cells #[.int .i64 me, .int .u64 (num + 1), .string t] 30)).drew.heap[w.heap.size]? = some (.cells #[.int .i64 0, .int .u64 0, .string ⟨#[]⟩] 30) := by
    have := heap_two (w.setCell ⟨r, 1, none⟩ (.int .u64 (num + 1))) (.cells #[.int .i64 0, .int .u64 0, .string ⟨#[]⟩] 30) (.cells #[.int .i64 me, .int .u64 (num + 1), .string t] 30)
    rw [hsz] at this
    exact this
  have hr0 : (((w.setCell ⟨r, 1, none⟩ (.int .u64 (num + 1))).alloc (.cells #[.int .i64 0, .int .u64 0, .string ⟨#[]⟩] 30)).alloc (.cells #[.int .i64 me, .int .u64 (num + 1), .string t] 30)).drew.cell? ⟨r, 0, none⟩ = some (.int .i64 me) :=
    ((((Mod.refl [] _).alloc _).alloc _).drew.cell (by rw [hsz]; exact hr) (by simp)).trans ((cell_set_off _ _ _ _ (by simp)).trans c0)
  have hr1 : (((w.setCell ⟨r, 1, none⟩ (.int .u64 (num + 1))).alloc (.cells #[.int .i64 0, .int .u64 0, .string ⟨#[]⟩] 30)).alloc (.cells #[.int .i64 me, .int .u64 (num + 1), .string t] 30)).drew.cell? ⟨r, 1, none⟩ = some (.int .u64 (num + 1)) :=
    ((((Mod.refl [] _).alloc _).alloc _).drew.cell (by rw [hsz]; exact hr) (by simp)).trans (cell_set_same c1)
  have hr2 : (((w.setCell ⟨r, 1, none⟩ (.int .u64 (num + 1))).alloc (.cells #[.int .i64 0, .int .u64 0, .string ⟨#[]⟩] 30)).alloc (.cells #[.int .i64 me, .int .u64 (num + 1), .string t] 30)).drew.cell? ⟨r, 2, none⟩ = some (.slice a many c) :=
    ((((Mod.refl [] _).alloc _).alloc _).drew.cell (by rw [hsz]; exact hr) (by simp)).trans ((cell_set_off _ _ _ _ (by simp)).trans c2)
  have hf1 : (((w.setCell ⟨r, 1, none⟩ (.int .u64 (num + 1))).alloc (.cells #[.int .i64 0, .int .u64 0, .string ⟨#[]⟩] 30)).alloc (.cells #[.int .i64 me, .int .u64 (num + 1), .string t] 30)).drew.frozen? ⟨r, 1, none⟩ = false :=
    ((((Mod.refl [] _).alloc _).alloc _).drew.frozen (by rw [hsz]; exact hr) (by simp)).trans ((World.frozen?_setCell _ _ _ _).trans f1)
  have hf2 : (((w.setCell ⟨r, 1, none⟩ (.int .u64 (num + 1))).alloc (.cells #[.int .i64 0, .int .u64 0, .string ⟨#[]⟩] 30)).alloc (.cells #[.int .i64 me, .int .u64 (num + 1), .string t] 30)).drew.frozen? ⟨r, 2, none⟩ = false :=
    ((((Mod.refl [] _).alloc _).alloc _).drew.frozen (by rw [hsz]; exact hr) (by simp)).trans ((World.frozen?_setCell _ _ _ _).trans f2)
  generalize hW2 : (((w.setCell ⟨r, 1, none⟩ (.int .u64 (num + 1))).alloc (.cells #[.int .i64 0, .int .u64 0, .string ⟨#[]⟩] 30)).alloc (.cells #[.int .i64 me, .int .u64 (num + 1), .string t] 30)).drew = W2 at hsl2 hm2 hb2 hb1 hr0 hr1 hr2 hf1 hf2 ⊢
  clear hs1 hW2 hsz c0 c1 c2 f1 f2
  have b0 : W2.cell? ⟨w.heap.size + 1, 0, none⟩ = some (.int .i64 me) := cell_in hb2 rfl
  have b1 : W2.cell? ⟨w.heap.size + 1, 1, none⟩ = some (.int .u64 (num + 1)) := cell_in hb2 rfl
  have b2 : W2.cell? ⟨w.heap.size + 1, 2, none⟩ = some (.string t) := cell_in hb2 rfl
  have hs2 : w.heap.size + 1 < W2.heap.size := (Array.getElem?_eq_some_iff.1 hb2).1
  obtain ⟨a', c', w4, happ, hsl4, S4, hM4, hS4⟩ := append_sl (w := (W2.alloc (.cells #[.int .i64 me, .int .u64 (num + 1), .string t] 30)).drew) (hsl2.mod ((Mod.refl [] _).alloc _).drew (by simp)) W2.heap.size 1 (me, num + 1, t) (range_new W2 (me, num + 1, t)) (by have := HM.out; omega) (by intro s hs; rcases List.mem_append.1 hs with h | h; (simp at h; simp; omega); (have := HG.out s h; simp; omega)) (by simp; omega)
  rw [HM.out] at happ
  have hmap : (Mod S4 (W2.alloc (.cells #[.int .i64 me, .int .u64 (num + 1), .string t] 30)).drew w4) := hM4
  have hold : ∀ s ∈ S4, s < w.heap.size := by
    intro s hs
    obtain ⟨_, _, ad, had, hbl⟩ := hS4 s hs
    obtain ⟨_, _, _, h4⟩ := HSL.out
    obtain ⟨g, off, e, _, _, hlt, _⟩ := h4 ad had
    rw [← hbl, e]
    exact hlt
  have hrS : r ∉ S4 := fun h => (hS4 r h).2.1 (List.mem_append_right _ HRG.out)
  have hsz3 : W2.heap.size ≤ (W2.alloc (.cells #[.int .i64 me, .int .u64 (num + 1), .string t] 30)).drew.heap.size := by simp
  have tr : ∀ k, k < w.heap.size + 2 → k ∉ S4 → w4.heap[k]? = W2.heap[k]? := fun k hk hs => (hM4.block k (by simp; omega) hs).trans (((Mod.refl [] W2).alloc _).drew.block k (by omega) (by simp))
  have hrW : r < W2.heap.size := by omega
  have q0 : w4.cell? ⟨r, 0, none⟩ = some (.int .i64 me) := (World.cell?_of_block (w := W2) (tr r (by omega) hrS)).trans hr0
  have q1 : w4.cell? ⟨r, 1, none⟩ = some (.int .u64 (num + 1)) := (World.cell?_of_block (w := W2) (tr r (by omega) hrS)).trans hr1
  have q2 : w4.cell? ⟨r, 2, none⟩ = some (.slice a many c) := (World.cell?_of_block (w := W2) (tr r (by omega) hrS)).trans hr2
  have g1 : w4.frozen? ⟨r, 1, none⟩ = false := (World.frozen?_of_block (w := W2) (tr r (by omega) hrS)).trans hf1
  have g2 : w4.frozen? ⟨r, 2, none⟩ = false := (World.frozen?_of_block (w := W2) (tr r (by omega) hrS)).trans hf2
  have hb14 := (tr w.heap.size (by omega) (fun h => by have := hold _ h; omega)).trans hb1
  have hb24 := (tr (w.heap.size + 1) (by omega) (fun h => by have := hold _ h; omega)).trans hb2
  have T1 := Lib.hid (And.intro q0 (And.intro q1 (And.intro g1 (And.intro hb14 hb24))))
  have T2 := Lib.hid hsl4
  have T3 := Lib.hid hS4
  have T4 := Lib.hid hM4
  have T5 := Lib.hid hm2
  clear q0 q1 g1 hb14 hb24 hsl4 hS4 hM4 hm2 hmap hold tr hr0 hr1 hf1 hsl2 hb1 hb2 hsz3
  have HAPP := Lib.hid happ
  clear happ
  go_wp2_with fail
  apply wp_merge (B := w4.setCell ⟨r, 2, none⟩ (.slice a' (many + 1) c'))
  case' h =>
    go_region_law (refine step_append_run rfl (.tmp 46) (.tmp 48) 36 rfl (.slice a many c) (.slice (some ⟨W2.heap.size, 0, none⟩) 1 1) (.slice a' (many + 1) c') w4 (by simp [Act.eval, Act.put]) (by simp [Act.eval, Act.put]) HAPP.out ?_)
    all_goals exact NoPanic.normal ⟨rfl, rfl, rfl⟩
  obtain ⟨q0, q1, g1, hb14, hb24⟩ := T1.out
  have fin := rsend_fin HE.out HM.out T2.out T3.out T4.out T5.out hr HRG.out hB n0 n1 (show many < 8 by omega) q0 q1 q2 g1 g2 hb14
  have hbw : (w4.setCell ⟨r, 2, none⟩ (.slice a' (many + 1) c')).heap[w.heap.size + 1]? = some (.cells #[.int .i64 me, .int .u64 (num + 1), .string t] 30) := (Below.heap_setCell _ _ _ _ (by simp; omega)).trans hb24
  have hzw : (w4.setCell ⟨r, 2, none⟩ (.slice a' (many + 1) c')).heap[w.heap.size]? = some (.cells #[.int .i64 0, .int .u64 0, .string ⟨#[]⟩] 30) := (Below.heap_setCell _ _ _ _ (by simp; omega)).trans hb14
  have FIN := Lib.hid fin
  clear q0 q1 q2 g1 g2 hb14 hb24 fin b0 b1 b2 hr2 hf2 T1 T2 T3 T4 T5
  generalize w4.setCell ⟨r, 2, none⟩ (.slice a' (many + 1) c') = W5 at FIN hbw hzw ⊢
  have b0 : W5.cell? ⟨w.heap.size + 1, 0, none⟩ = some (.int .i64 me) := cell_in hbw rfl
  have b1 : W5.cell? ⟨w.heap.size + 1, 1, none⟩ = some (.int .u64 (num + 1)) := cell_in hbw rfl
  have b2 : W5.cell? ⟨w.heap.size + 1, 2, none⟩ = some (.string t) := cell_in hbw rfl
  have z0 : W5.cell? ⟨w.heap.size, 0, none⟩ = some (.int .i64 0) := cell_in hzw rfl
  have z1 : W5.cell? ⟨w.heap.size, 1, none⟩ = some (.int .u64 0) := cell_in hzw rfl
  have z2 : W5.cell? ⟨w.heap.size, 2, none⟩ = some (.string ⟨#[]⟩) := cell_in hzw rfl
  have y0 : W5.frozen? ⟨w.heap.size, 0, none⟩ = false := free_in hzw
  have y1 : W5.frozen? ⟨w.heap.size, 1, none⟩ = false := free_in hzw
  have y2 : W5.frozen? ⟨w.heap.size, 2, none⟩ = false := free_in hzw
  clear hbw hzw
  go_wp2_with fail
  obtain ⟨fin, r0, r1, r2⟩ := FIN.out
  refine bodyPost_ret (v := .tuple #[mval (me, num + 1, t), .int .i64 0]) (by simp [results, Try.results8, go_sem, mval, mcells, r0, r1, r2]) rfl ?_
  exact fin

end Go.Proofs.Ytkafejbfhmolhaa
