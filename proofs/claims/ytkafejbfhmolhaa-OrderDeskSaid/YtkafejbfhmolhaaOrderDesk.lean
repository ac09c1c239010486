/-
  The walk of the law OrderDesk.
-/
import Derived.Test.YtkafejbfhmolhaaOrdA
import Derived.Test.YtkafejbfhmolhaaDeskC
import Derived.Test.YtkafejbfhmolhaaSameMs
import Derived.Test.YtkafejbfhmolhaaRefDskB
import Derived.Test.YtkafejbfhmolhaaDeskActs
namespace Go.Proofs.Ytkafejbfhmolhaa
open Go.RowKit

theorem RefDeskAt.more {B : Nat} {G : List Nat} {w : World} {r : Nat} {me num : Int} {L : List M} (h : RefDeskAt B G w r me num L) (T : List Nat) (hT : ∀ s ∈ T, w.heap.size ≤ s) : RefDeskAt B (T ++ G) w r me num L := by
  obtain ⟨a, c, h1, h2, h3, h4, h5, h6, h7, h8, h9⟩ := h
  exact ⟨a, c, h1, h2, h3, h4, h5, h6, List.mem_append_right _ h7, h8.more T hT, h9⟩
theorem RefDeskAt.less {B : Nat} {G T : List Nat} {w : World} {r : Nat} {me num : Int} {L : List M} (h : RefDeskAt B (T ++ G) w r me num L) (hr : r ∈ G) : RefDeskAt B G w r me num L := by
  obtain ⟨a, c, h1, h2, h3, h4, h5, h6, h7, h8, h9⟩ := h
  exact ⟨a, c, h1, h2, h3, h4, h5, h6, hr, h8.less, h9⟩
theorem dnum_at (d : Nat) (me num : Int) (L : List M) (w : World) (h : DeskAt w d me num L) :
    Calls Try.prog 14 #[.pointer (some ⟨d, 0, none⟩)] w fun e w' => e = .returned (.int .u64 num) ∧ w = w' := by
  obtain ⟨head, r, hr, _⟩ := h
  exact dnum_any d me num head _ r w hr
theorem DeskAt.len {w : World} {d : Nat} {me num : Int} {L : List M} (h : DeskAt w d me num L) : L.length ≤ 8 := by
  obtain ⟨head, r, hr, _⟩ := h
  have := hr.m1
  omega
theorem DeskAt.lt {w : World} {d : Nat} {me num : Int} {L : List M} (h : DeskAt w d me num L) : d < w.heap.size := by
  obtain ⟨head, r, hr, _⟩ := h
  exact hr.lt

/-- Both desks hold the same. -/
structure BothAt (w0 w : World) (B d r : Nat) (me num : Int) (L : List M) : Prop where
  desk : DeskAt w d me num L
  ref : RefDeskAt B [d, r] w r me num L
  mine : ∀ m ∈ L, m.1 = me
  mod : Mod [] w0 w
  base : B ≤ w.heap.size

theorem BothAt.same {w0 w w' : World} {B d r : Nat} {me num : Int} {L : List M} (h : BothAt w0 w B d r me num L) (hm : Mod [] w w') : BothAt w0 w' B d r me num L :=
  ⟨h.desk.mod hm (by simp), h.ref.same hm, h.mine, h.mod.trans hm, Nat.le_trans h.base hm.size⟩

/-- The first ones that wait, by either. -/
theorem waits_both {w0 w : World} {B d r m : Nat} {me num : Int} {L LT : List M} (most : Int) (h : BothAt w0 w B d r me num L) (hT : L.take (max 0 (min most (L.length : Int))).toNat = LT) (hm : LT.length = m) :
    Calls Try.prog 13 #[.pointer (some ⟨d, 0, none⟩), .int .i64 most] w fun e w' => ∃ a c, e = .returned (.slice a m c) ∧ RdMs w' a LT ∧ BothAt w0 w' B d r me num L ∧ Mod [] w w' := by
  subst hT
  subst hm
  refine (waits_any d me num L most (max 0 (min most (L.length : Int))).toNat w h.desk (by omega)).mono ?_
  rintro e w6 ⟨v, rfl, hO, hM⟩
  obtain ⟨a, c, rfl, hr, _⟩ := hO.shape
  exact ⟨a, c, rfl, hr, h.same hM, hM⟩
theorem rwaits_both {w0 w : World} {B d r m : Nat} {me num : Int} {L LT : List M} (most : Int) (hmx : most ≤ 9223372036854775807) (h : BothAt w0 w B d r me num L) (hT : L.take (max 0 (min most (L.length : Int))).toNat = LT) (hm : LT.length = m) :
    Calls Try.prog 9 #[.pointer (some ⟨r, 0, none⟩), .int .i64 most] w fun e w' => ∃ a c, e = .returned (.slice a m c) ∧ RdMs w' a LT ∧ BothAt w0 w' B d r me num L ∧ Mod [] w w' := by
  subst hT
  subst hm
  refine (rdwaits_any B [d, r] r me num L most (max 0 (min most (L.length : Int))).toNat w h.ref (by omega) hmx).mono ?_
  rintro e w6 ⟨v, rfl, hO, hM⟩
  obtain ⟨a, c, rfl, hr, _⟩ := hO.shape
  exact ⟨a, c, rfl, hr, h.same hM, hM⟩
theorem rwaits_fresh {w0 w : World} {B d r m : Nat} {me num : Int} {L LT : List M} (most : Int) (hmx : most ≤ 9223372036854775807) (h : BothAt w0 w B d r me num L) (hT : L.take (max 0 (min most (L.length : Int))).toNat = LT) (hm : LT.length = m) :
    Calls Try.prog 9 #[.pointer (some ⟨r, 0, none⟩), .int .i64 most] w fun e w' => ∃ a c, e = .returned (.slice a m c) ∧ RdMs w' a LT ∧ BothAt w0 w' B d r me num L ∧ Mod [] w w' ∧ ∀ g o, a = some ⟨g, o, none⟩ → w.heap.size ≤ g := by
  subst hT
  subst hm
  refine (rdwaits_any B [d, r] r me num L most (max 0 (min most (L.length : Int))).toNat w h.ref (by omega) hmx).mono ?_
  rintro e w6 ⟨v, rfl, hO, hM⟩
  obtain ⟨a, c, rfl, hr, _, _, _, hge⟩ := hO.shape
  refine ⟨a, c, rfl, hr, h.same hM, hM, fun g o e => ?_⟩
  obtain ⟨g2, e2, h2⟩ := hge _ e
  injection e2 with e2
  rw [e2]
  exact h2
theorem take_first {α : Type} (x : α) (T : List α) : (x :: T).take (max 0 (min 1 ((x :: T).length : Int))).toNat = [x] := by
  have : (max 0 (min 1 ((x :: T).length : Int))).toNat = 1 := by simp; omega
  rw [this]
  rfl
theorem take99 {L : List M} (h : L.length ≤ 8) : L.take (max 0 (min 99 (L.length : Int))).toNat = L := List.take_of_length_le (by omega)
theorem same_eqn (L : List M) (a b : Option Addr) (c c2 n : Nat) (w : World) (ha : RdMs w a L) (hb : RdMs w b L) (hn : L.length = n) (hl : n ≤ 1000000) :
    Calls Try.prog 12 #[.slice a n c, .slice b n c2] w fun e w' => e = .returned (.bool true) ∧ ∃ m, w' = w.drewN m := by
  subst hn
  exact same_eq L a b c c2 w ha hb hl

theorem seen_b (d : Nat) (me num : Int) (L : List M) (ms mn : Int) (mt : ByteArray) (bb : Bool) (w : World) (h : DeskAt w d me num L) (hb : seenOk me L (ms, mn, mt) = bb) :
    Calls Try.prog 10 #[.pointer (some ⟨d, 0, none⟩), .agg #[.int .i64 ms, .int .u64 mn, .string mt]] w fun e w' => e = .returned (.bool bb) ∧ Mod [d] w w' ∧ DeskAt w' d me num (if bb then L.tail else L) := by
  subst hb
  exact seen_any d me num L (ms, mn, mt) w h
theorem rseen_b {B : Nat} {G : List Nat} (r : Nat) (me num : Int) (L : List M) (ms mn : Int) (mt : ByteArray) (bb : Bool) (w : World) (h : RefDeskAt B G w r me num L) (hb : seenOk me L (ms, mn, mt) = bb) :
    Calls Try.prog 11 #[.pointer (some ⟨r, 0, none⟩), .agg #[.int .i64 ms, .int .u64 mn, .string mt]] w fun e w' => e = .returned (.bool bb) ∧ Mod [r] w w' ∧ RefDeskAt B G w' r me num (if bb then L.tail else L) := by
  subst hb
  exact rseen_any B G r me num L (ms, mn, mt) w h
theorem mod_dr {a w : World} {d r : Nat} (h : Mod [d] a.drew w) : Mod [d, r] a w := ((Mod.refl [d, r] a).drew).step h (by simp)
theorem mod_dr2 {a w w2 : World} {d r : Nat} (h : Mod [d] a.drew w) (h2 : Mod [r] w w2) : Mod [d, r] a w2 := (mod_dr h).step h2 (by simp)
theorem ref_d {w0 w w2 : World} {B d r : Nat} {me num : Int} {L : List M} (h : BothAt w0 w B d r me num L) (hm : Mod [d] w w2) (hdr : d < r) : RefDeskAt B [d, r] w2 r me num L := h.ref.mod hm (by simp; omega) (by simp)
theorem both_seen {w0 w w2 w3 : World} {B d r : Nat} {me num : Int} {L : List M} {bb : Bool} (h : BothAt w0 w B d r me num L) (hm : Mod [d] w w2) (hD : DeskAt w2 d me num (if bb then L.tail else L)) (hm2 : Mod [r] w2 w3) (hR : RefDeskAt B [d, r] w3 r me num (if bb then L.tail else L)) (hdr : d < r) (h0 : w0.heap.size ≤ d) :
    BothAt w0 w3 B d r me num (if bb then L.tail else L) :=
  ⟨hD.mod hm2 (by simp; omega), hR, fun m hmem => by
    cases bb with
    | false => exact h.mine m hmem
    | true => exact h.mine m (List.mem_of_mem_tail hmem), (h.mod.step hm (by simp; omega)).step hm2 (by simp; omega), Nat.le_trans h.base (Nat.le_trans hm.size hm2.size)⟩

theorem sz_le {w0 w w4 : World} {o : Obj} {B d r : Nat} {me num : Int} {L : List M} (h : BothAt w0 w B d r me num L) (hs : w.heap.size ≤ w4.heap.size) : B ≤ (w4.alloc o).heap.size := by
  have := h.base
  simp
  omega

def DeskRel (w0 : World) (B d r n : Nat) (me : Int) (v : Value) (wr : World) : Prop :=
  ∃ (i : Nat) (num : Int) (L : List M), v = .int .i64 i ∧ i ≤ n ∧ BothAt w0 wr B d r me num L

set_option maxRecDepth 100000 in
set_option maxHeartbeats 16000000 in
theorem walk_OrderDesk (w : World) (me : Int) (me0 : -9223372036854775808 ≤ me) (me1 : me ≤ 9223372036854775807) (num : Int) (num0 : 0 ≤ num) (num1 : num ≤ 18446744073709551615) (l : Option Addr) (cl : Nat) (acts : List ActD) (rd : DActsAt w l acts) :
    Calls Try.prog 3 #[.int .i64 me, .int .u64 num, .slice l acts.length cl] w (TruePost w) := by
  have RD := Lib.hid rd
  have NB := Lib.hid (And.intro num0 num1)
  clear rd num0 num1
  by_cases h1 : (150 : Int) < acts.length
  · go_enter Try.func3, Try.ntmps3
    go_wp2_with fail
    refine (shown18 _).mono ?_
    rintro e w1 ⟨rfl, hM⟩
    have HM := Lib.hid hM
    clear hM
    go_wp2_with fail
    go_ret
    exact ⟨rfl, HM.out⟩
  cases hnode : isNode me with
  | false =>
    have HND := Lib.hid hnode
    clear hnode
    go_enter Try.func3, Try.ntmps3
    go_wp2_with fail
    refine (shown18 _).mono ?_
    rintro e w1 ⟨rfl, hM⟩
    have HM := Lib.hid hM
    clear hM
    go_wp2_with fail
    refine (newdesk_nil me num _ HND.out).mono ?_
    rintro e w2 ⟨rfl, rfl⟩
    go_wp2_with fail
    refine (rnewdesk_nil me num _ HND.out).mono ?_
    rintro e w2 ⟨rfl, rfl⟩
    go_wp2_with fail
    go_ret
    exact ⟨rfl, HM.out⟩
  | true =>
    have HND := Lib.hid hnode
    clear hnode
    go_enter Try.func3, Try.ntmps3
    go_wp2_with fail
    refine (shown18 _).mono ?_
    rintro e w1 ⟨rfl, hM⟩
    have HM1 := Lib.hid hM
    clear hM
    go_wp2_with fail
    refine (newdesk_any me num _ HND.out NB.out.1 NB.out.2).mono ?_
    rintro e w2 ⟨d, rfl, hd, hD, hM⟩
    have HD2 := Lib.hid hD
    have HM2 := Lib.hid (HM1.out.trans hM)
    have HDD := Lib.hid (show w.heap.size ≤ d ∧ d < w2.heap.size by have := HM1.out.size; have := hD.lt; omega)
    clear hD hM hd
    go_wp2_with fail
    refine (rnewdesk_any me num _ HND.out NB.out.1 NB.out.2).mono ?_
    rintro e w3 ⟨rfl, hR, hM⟩
    obtain ⟨r, hr⟩ : ∃ r, w2.heap.size = r := ⟨_, rfl⟩
    rw [hr] at hR HDD ⊢
    have HB3 := Lib.hid (show BothAt w w3 w3.heap.size d r me num [] from ⟨HD2.out.mod hM (by simp), hR _ _ (by simp), by simp, HM2.out.trans hM, Nat.le_refl _⟩)
    have HBL := Lib.hid (show w.heap.size ≤ d ∧ d < r ∧ r < w3.heap.size by
      have h2 := HDD.out
      obtain ⟨_, _, _, _, _, _, _, h6, _⟩ := hR 0 [r] (by simp)
      omega)
    have HRD3 := Lib.hid (RD.out.mod HB3.out.mod)
    clear hR hM hr HD2 HM1 HM2 HDD
    go_wp2_with fail
    go_loopw [9] (fun v wr => DeskRel w w3.heap.size d r acts.length me v wr) (fun v _ => acts.length - (intOf v).toNat)
    case atStart => exact ⟨0, num, [], rfl, Nat.zero_le _, HB3.out⟩
    case round =>
      have HB3S := Lib.hid HB3.out.mod.size
      clear HB3
      obtain ⟨i, nu, L, rfl, hi, hB⟩ := hrel
      have HB := Lib.hid hB
      clear hB
      by_cases hlt : (i : Int) < acts.length
      · have hlt' : i < acts.length := by omega
        obtain ⟨⟨kind, N, text, ⟨ms, mn, mt⟩⟩, hx⟩ : ∃ x, acts[i]? = some x := ⟨_, List.getElem?_eq_getElem hlt'⟩
        obtain ⟨b, o, rfl, hbl, hcx⟩ := RD.out (by intro h; rw [h] at hlt'; simp at hlt')
        have hac0 := hcx i _ hx
        have hac : ActCells wr b (o + i * 6) ⟨kind, N, text, (ms, mn, mt)⟩ := by
          obtain ⟨c0, c1, c2, c3, c4, c5, wn, wt⟩ := hac0
          have hm := HB.out.mod
          exact ⟨(hm.cell hbl (by simp)).trans c0, (hm.cell hbl (by simp)).trans c1, (hm.cell hbl (by simp)).trans c2, (hm.cell hbl (by simp)).trans c3, (hm.cell hbl (by simp)).trans c4, (hm.cell hbl (by simp)).trans c5, wn, wt⟩
        obtain ⟨c0, c1, c2, c3, c4, c5, wn, wt⟩ := hac
        simp only at c0 c1 c2 c3 c4 c5 wn wt
        have HBB := Lib.hid hbl
        clear hx hcx hac0 hbl
        by_cases hk4 : kind = 4
        · subst hk4
          obtain ⟨LT, hLT⟩ : ∃ LT, L.take (max 0 (min N (L.length : Int))).toNat = LT := ⟨_, rfl⟩
          obtain ⟨m', hm'⟩ : ∃ m', LT.length = m' := ⟨_, rfl⟩
          have hm8 : m' ≤ 8 := by rw [← hm', ← hLT]; have := HB.out.desk.len; simp; omega
          have HLT := Lib.hid hLT
          have HM' := Lib.hid hm'
          have HCELL := Lib.hid (show ∀ W, BothAt w W w3.heap.size d r me nu L → W.cell? ⟨b, o + i * 6 + 1, none⟩ = some (.int .i64 N) from fun W hW =>
            (hW.mod.cell (p := ⟨b, o + i * 6 + 1, none⟩) HBB.out (by simp)).trans (((HB.out.mod.cell (p := ⟨b, o + i * 6 + 1, none⟩) HBB.out (by simp)).symm).trans c1))
          have hb0 := HB.out.same (Mod.refl [] wr).drew
          have HS0 := Lib.hid (And.intro (HCELL.out _ hb0) hb0)
          clear hLT hm' hb0
          go_wp2_with fail
          go_region_held3 (fun w' => w'.cell? ⟨b, o + i * 6 + 1, none⟩ = some (.int .i64 N) ∧ BothAt w w' w3.heap.size d r me nu L) (first | exact HS0.out | exact ⟨HCELL.out _ (by assumption), by assumption⟩ | exact ⟨HCELL.out _ (BothAt.same (by assumption) ((Mod.refl [] _).drewN _)), BothAt.same (by assumption) ((Mod.refl [] _).drewN _)⟩) (first
            | (go_at_call 13; refine (waits_both N (And.right (by assumption)) HLT.out HM'.out).mono ?_; rintro e w6 ⟨a6, k6, rfl, hr6, hB6, hM6⟩)
            | (go_at_call 9; refine (rwaits_both N wn.2 (And.right (by assumption)) HLT.out HM'.out).mono ?_; rintro e w7 ⟨a7, k7, rfl, hr7, hB7, hM7⟩; have hr67 := RdMs.mod (S := []) (by assumption) hM7 (by simp))
            | (go_at_call 12; refine (same_eqn LT _ _ _ _ _ _ (by assumption) (by assumption) HM'.out (by omega)).mono ?_; rintro e w8 ⟨rfl, q8, rfl⟩))
          rename_i hHeld
          obtain ⟨nu2, hnu2⟩ : ∃ nu2, nu2 = nu := ⟨_, rfl⟩
          obtain ⟨L2, hL2⟩ : ∃ L2, L2 = L := ⟨_, rfl⟩
          have HBT := Lib.hid (show BothAt w _ w3.heap.size d r me nu2 L2 by rw [hnu2, hL2]; exact hHeld.2)
          clear hnu2 hL2 hHeld c0 c1 c2 c3 c4 c5 HS0 HCELL
          go_wp2_with fail
          obtain ⟨n2, hn2⟩ : ∃ n2, L2.length = n2 := ⟨_, rfl⟩
          have HN2 := Lib.hid hn2
          have qq : (nu2 != nu2) = false := by simp
          clear hn2
          refine (dnum_at d me nu2 L2 _ HBT.out.desk).mono ?_
          rintro e w3' ⟨rfl, rfl⟩
          go_wp2_with fail
          refine (rdnum_any w3.heap.size [d, r] r me nu2 L2 _ HBT.out.ref).mono ?_
          rintro e w3' ⟨rfl, rfl⟩
          go_wp2_with fail
          refine (waits_both 99 HBT.out (take99 HBT.out.desk.len) HN2.out).mono ?_
          rintro e w4 ⟨a4, k4, rfl, hr4, hB4, _⟩
          have HB4 := Lib.hid hB4
          have HR4 := Lib.hid hr4
          clear hr4 hB4
          go_wp2_with fail
          refine (rwaits_both 99 (by decide) HB4.out (take99 HB4.out.desk.len) HN2.out).mono ?_
          rintro e w5 ⟨a5, k5, rfl, hr5, hB5, hM5⟩
          have HB5 := Lib.hid hB5
          have HR5 := Lib.hid hr5
          have HR45 := Lib.hid (HR4.out.mod hM5 (by simp))
          clear hr5 hB5 hM5
          go_wp2_with fail
          refine (same_eqn L2 a4 a5 k4 k5 _ _ HR45.out HR5.out HN2.out (by have := HB5.out.desk.len; have := HN2.out; omega)).mono ?_
          rintro e w6 ⟨rfl, q6, rfl⟩
          go_wp2_with fail
          go_roundw
          case rel => exact ⟨i + 1, nu2, L2, by go_num, hlt', HB5.out.same ((Mod.refl _ _).drewN _)⟩
          case measure => simp [intOf]; omega
        by_cases hk3 : kind = 3
        · subst hk3
          obtain ⟨bb, hbb⟩ : ∃ bb, seenOk me L (ms, mn, mt) = bb := ⟨_, rfl⟩
          have HBX := Lib.hid hbb
          have hqq : (bb == bb) = true := by simp
          have HC := Lib.hid (And.intro c3 (And.intro c4 c5))
          have hb0 := HB.out.same (Mod.refl [] wr).drew
          have HB0 := Lib.hid hb0
          have HCM := Lib.hid (show ∀ (S : List Nat) (W : World), Mod S wr W → b ∉ S → W.cell? ⟨b, o + i * 6 + 3, none⟩ = some (.int .i64 ms) ∧ W.cell? ⟨b, o + i * 6 + 4, none⟩ = some (.int .u64 mn) ∧ W.cell? ⟨b, o + i * 6 + 5, none⟩ = some (.string mt) from fun S W hM hS => by
            have hlt : b < wr.heap.size := Nat.lt_of_lt_of_le HBB.out HB.out.mod.size
            exact ⟨(hM.cell (p := ⟨b, o + i * 6 + 3, none⟩) hlt hS).trans HC.out.1, (hM.cell (p := ⟨b, o + i * 6 + 4, none⟩) hlt hS).trans HC.out.2.1, (hM.cell (p := ⟨b, o + i * 6 + 5, none⟩) hlt hS).trans HC.out.2.2⟩)
          have HBD := Lib.hid (show b ∉ [d, r] by have := HBB.out; have := HBL.out; simp; omega)
          clear hbb hb0
          go_wp2_with fail
          go_region_held3 (fun w' => w'.cell? ⟨b, o + i * 6 + 3, none⟩ = some (.int .i64 ms) ∧ w'.cell? ⟨b, o + i * 6 + 4, none⟩ = some (.int .u64 mn) ∧ w'.cell? ⟨b, o + i * 6 + 5, none⟩ = some (.string mt)) (first | exact HCM.out [] _ (Mod.refl _ _).drew (by simp) | exact HCM.out [d, r] _ (mod_dr (by assumption)) HBD.out | exact HCM.out [d, r] _ (mod_dr2 (by assumption) (by assumption)) HBD.out) (first
            | (go_at_call 10; refine (seen_b d me nu L ms mn mt bb _ HB0.out.desk HBX.out).mono ?_; rintro e w6 ⟨rfl, hM6, hD6⟩)
            | (go_at_call 11; refine (rseen_b (B := w3.heap.size) (G := [d, r]) r me nu L ms mn mt bb _ (ref_d HB0.out (by assumption) HBL.out.2.1) HBX.out).mono ?_; rintro e w7 ⟨rfl, hM7, hR7⟩))
          have hbt : BothAt w _ w3.heap.size d r me nu (if bb then L.tail else L) := both_seen HB0.out (by assumption) (by assumption) (by assumption) (by assumption) HBL.out.2.1 HBL.out.1
          obtain ⟨nu2, hnu2⟩ : ∃ nu2, nu2 = nu := ⟨_, rfl⟩
          obtain ⟨L2, hL2⟩ : ∃ L2, L2 = (if bb then L.tail else L) := ⟨_, rfl⟩
          have HBT := Lib.hid (show BothAt w _ w3.heap.size d r me nu2 L2 by rw [hnu2, hL2]; exact hbt)
          clear hnu2 hL2 hbt c0 c1 c2 c3 c4 c5 HC HCM HB0
          go_wp2_with fail
          obtain ⟨n2, hn2⟩ : ∃ n2, L2.length = n2 := ⟨_, rfl⟩
          have HN2 := Lib.hid hn2
          have qq : (nu2 != nu2) = false := by simp
          clear hn2
          refine (dnum_at d me nu2 L2 _ HBT.out.desk).mono ?_
          rintro e w3' ⟨rfl, rfl⟩
          go_wp2_with fail
          refine (rdnum_any w3.heap.size [d, r] r me nu2 L2 _ HBT.out.ref).mono ?_
          rintro e w3' ⟨rfl, rfl⟩
          go_wp2_with fail
          refine (waits_both 99 HBT.out (take99 HBT.out.desk.len) HN2.out).mono ?_
          rintro e w4 ⟨a4, k4, rfl, hr4, hB4, _⟩
          have HB4 := Lib.hid hB4
          have HR4 := Lib.hid hr4
          clear hr4 hB4
          go_wp2_with fail
          refine (rwaits_both 99 (by decide) HB4.out (take99 HB4.out.desk.len) HN2.out).mono ?_
          rintro e w5 ⟨a5, k5, rfl, hr5, hB5, hM5⟩
          have HB5 := Lib.hid hB5
          have HR5 := Lib.hid hr5
          have HR45 := Lib.hid (HR4.out.mod hM5 (by simp))
          clear hr5 hB5 hM5
          go_wp2_with fail
          refine (same_eqn L2 a4 a5 k4 k5 _ _ HR45.out HR5.out HN2.out (by have := HB5.out.desk.len; have := HN2.out; omega)).mono ?_
          rintro e w6 ⟨rfl, q6, rfl⟩
          go_wp2_with fail
          go_roundw
          case rel => exact ⟨i + 1, nu2, L2, by go_num, hlt', HB5.out.same ((Mod.refl _ _).drewN _)⟩
          case measure => simp [intOf]; omega
        by_cases hk2 : kind = 2
        · subst hk2
          cases L with
          | nil =>
            go_wp2_with fail
            refine (rwaits_fresh 1 (by decide) HB.out (LT := []) (m := 0) rfl rfl).mono ?_
            rintro e w4 ⟨a4, k4, rfl, hr4, hB4, hM4, _⟩
            obtain ⟨nu2, hnu2⟩ : ∃ nu2, nu2 = nu := ⟨_, rfl⟩
            obtain ⟨L2, hL2⟩ : ∃ L2, L2 = ([] : List M) := ⟨_, rfl⟩
            have HBT := Lib.hid (show BothAt w w4 w3.heap.size d r me nu2 L2 by rw [hnu2, hL2]; exact hB4)
            clear hnu2 hL2 hr4 hB4 hM4 c0 c1 c2 c3 c4 c5
            go_wp2_with fail
            obtain ⟨n2, hn2⟩ : ∃ n2, L2.length = n2 := ⟨_, rfl⟩
            have HN2 := Lib.hid hn2
            have qq : (nu2 != nu2) = false := by simp
            clear hn2
            refine (dnum_at d me nu2 L2 _ HBT.out.desk).mono ?_
            rintro e w3' ⟨rfl, rfl⟩
            go_wp2_with fail
            refine (rdnum_any w3.heap.size [d, r] r me nu2 L2 _ HBT.out.ref).mono ?_
            rintro e w3' ⟨rfl, rfl⟩
            go_wp2_with fail
            refine (waits_both 99 HBT.out (take99 HBT.out.desk.len) HN2.out).mono ?_
            rintro e w4 ⟨a4, k4, rfl, hr4, hB4, _⟩
            have HB4 := Lib.hid hB4
            have HR4 := Lib.hid hr4
            clear hr4 hB4
            go_wp2_with fail
            refine (rwaits_both 99 (by decide) HB4.out (take99 HB4.out.desk.len) HN2.out).mono ?_
            rintro e w5 ⟨a5, k5, rfl, hr5, hB5, hM5⟩
            have HB5 := Lib.hid hB5
            have HR5 := Lib.hid hr5
            have HR45 := Lib.hid (HR4.out.mod hM5 (by simp))
            clear hr5 hB5 hM5
            go_wp2_with fail
            refine (same_eqn L2 a4 a5 k4 k5 _ _ HR45.out HR5.out HN2.out (by have := HB5.out.desk.len; have := HN2.out; omega)).mono ?_
            rintro e w6 ⟨rfl, q6, rfl⟩
            go_wp2_with fail
            go_roundw
            case rel => exact ⟨i + 1, nu2, L2, by go_num, hlt', HB5.out.same ((Mod.refl _ _).drewN _)⟩
            case measure => simp [intOf]; omega
          | cons x T =>
            obtain ⟨xs, xn, xt⟩ := x
            go_wp2_with fail
            refine (rwaits_fresh 1 (by decide) HB.out (LT := [(xs, xn, xt)]) (m := 1) (take_first _ _) rfl).mono ?_
            rintro e w4 ⟨a4, k4, rfl, hr4, hB4, hM4, hge⟩
            obtain ⟨g, og, rfl, hgl, hrg⟩ := hr4 (by simp)
            have hgd := hge g og rfl
            have x0 : w4.cell? ⟨g, og, none⟩ = some (.int .i64 xs) := hrg 0 _ rfl
            have x1 : w4.cell? ⟨g, og + 1, none⟩ = some (.int .u64 xn) := hrg 1 _ rfl
            have x2 : w4.cell? ⟨g, og + 2, none⟩ = some (.string xt) := hrg 2 _ rfl
            have hme : xs = me := hB4.mine (xs, xn, xt) (by simp)
            subst hme
            have hok : seenOk xs ((xs, xn, xt) :: T) (xs, xn, xt) = true := by simp [seenOk]
            have HB4 := Lib.hid hB4
            have HOK := Lib.hid hok
            have HGB := Lib.hid (show g < w4.heap.size ∧ g ∉ [d] by
              have := HB.out.desk.lt
              simp
              omega)
            clear hr4 hB4 hM4 hge hrg hok hgd c0 c1 c2 c3 c4 c5
            go_wp2_with fail
            refine (seen_b d xs nu _ xs xn xt true _ HB4.out.desk HOK.out).mono ?_
            rintro e w5 ⟨rfl, hM5, hD5⟩
            have y0 := (hM5.cell (p := ⟨g, og, none⟩) HGB.out.1 HGB.out.2).trans x0
            have y1 := (hM5.cell (p := ⟨g, og + 1, none⟩) HGB.out.1 HGB.out.2).trans x1
            have y2 := (hM5.cell (p := ⟨g, og + 2, none⟩) HGB.out.1 HGB.out.2).trans x2
            have HR5 := Lib.hid (ref_d HB4.out hM5 HBL.out.2.1)
            have HM5 := Lib.hid hM5
            have HD5 := Lib.hid hD5
            clear x0 x1 x2 hM5 hD5
            go_wp2_with fail
            refine (rseen_b r xs nu _ xs xn xt true _ HR5.out HOK.out).mono ?_
            rintro e w6 ⟨rfl, hM6, hR6⟩
            have hbt := both_seen (bb := true) HB4.out HM5.out HD5.out hM6 hR6 HBL.out.2.1 HBL.out.1
            obtain ⟨me', hme'⟩ : ∃ me', me' = xs := ⟨_, rfl⟩
            obtain ⟨nu2, hnu2⟩ : ∃ nu2, nu2 = nu := ⟨_, rfl⟩
            obtain ⟨L2, hL2⟩ : ∃ L2, L2 = T := ⟨_, rfl⟩
            have HBT := Lib.hid (show BothAt w w6 w3.heap.size d r xs nu2 L2 by rw [hnu2, hL2]; exact hbt)
            clear hnu2 hL2 hbt hM6 hR6 y0 y1 y2 hme'
            go_wp2_with fail
            obtain ⟨n2, hn2⟩ : ∃ n2, L2.length = n2 := ⟨_, rfl⟩
            have HN2 := Lib.hid hn2
            have qq : (nu2 != nu2) = false := by simp
            clear hn2
            refine (dnum_at d xs nu2 L2 _ HBT.out.desk).mono ?_
            rintro e w3' ⟨rfl, rfl⟩
            go_wp2_with fail
            refine (rdnum_any w3.heap.size [d, r] r xs nu2 L2 _ HBT.out.ref).mono ?_
            rintro e w3' ⟨rfl, rfl⟩
            go_wp2_with fail
            refine (waits_both 99 HBT.out (take99 HBT.out.desk.len) HN2.out).mono ?_
            rintro e w4 ⟨a4, k4, rfl, hr4, hB4, _⟩
            have HB4 := Lib.hid hB4
            have HR4 := Lib.hid hr4
            clear hr4 hB4
            go_wp2_with fail
            refine (rwaits_both 99 (by decide) HB4.out (take99 HB4.out.desk.len) HN2.out).mono ?_
            rintro e w5 ⟨a5, k5, rfl, hr5, hB5, hM5⟩
            have HB5 := Lib.hid hB5
            have HR5 := Lib.hid hr5
            have HR45 := Lib.hid (HR4.out.mod hM5 (by simp))
            clear hr5 hB5 hM5
            go_wp2_with fail
            refine (same_eqn L2 a4 a5 k4 k5 _ _ HR45.out HR5.out HN2.out (by have := HB5.out.desk.len; have := HN2.out; omega)).mono ?_
            rintro e w6 ⟨rfl, q6, rfl⟩
            go_wp2_with fail
            go_roundw
            case rel => exact ⟨i + 1, nu2, L2, by go_num, hlt', HB5.out.same ((Mod.refl _ _).drewN _)⟩
            case measure => simp [intOf]; omega
        by_cases hk1 : kind = 0 ∨ kind = 1
        · clear hk2 hk3 hk4
          rcases hk1 with rfl | rfl
          all_goals
            obtain ⟨z, hz⟩ : ∃ z, text.size = z := ⟨_, rfl⟩
            by_cases h100 : (100 : Int) < (z : Int)
            · go_wp2_with fail
              refine (shown18 _).mono ?_
              rintro e w4 ⟨rfl, hM4⟩
              have HM4 := Lib.hid (HB.out.mod.trans hM4)
              clear hM4
              go_wp2_with fail
              go_ret
              exact ⟨rfl, HM4.out⟩
            have CALL := Lib.hid (send_any d me nu L text wr HB.out.desk wt)
            go_wp2_with fail
            refine CALL.out.mono ?_
            intro e w4 hp
            obtain ⟨he, hM4, hD4⟩ := hp
            obtain ⟨er, her⟩ : ∃ er, sendErr nu L.length text = er := ⟨_, rfl⟩
            obtain ⟨⟨s1, n1, t1⟩, hmv⟩ : ∃ mv, (if er = 0 then (me, nu + 1, text) else m0) = mv := ⟨_, rfl⟩
            obtain ⟨nu2, hnu2⟩ : ∃ nu2, (if er = 0 then nu + 1 else nu) = nu2 := ⟨_, rfl⟩
            obtain ⟨L2, hL2⟩ : ∃ L2, (if er = 0 then L ++ [(me, nu + 1, text)] else L) = L2 := ⟨_, rfl⟩
            rw [her, hmv] at he
            rw [her, hnu2, hL2] at hD4
            have he2 : e = .returned (.tuple #[.agg #[.int .i64 s1, .int .u64 n1, .string t1], .int .i64 er]) := he
            clear he
            subst he2
            have HER := Lib.hid (And.intro her (And.intro hmv (And.intro hnu2 hL2)))
            have hbw : b < wr.heap.size := Nat.lt_of_lt_of_le HBB.out HB.out.mod.size
            have hbd : b ∉ [d] := by have := HBB.out; have := HBL.out; simp; omega
            have d2 : w4.cell? ⟨b, o + i * 6 + 2, none⟩ = some (.string text) := (hM4.cell (p := ⟨b, o + i * 6 + 2, none⟩) hbw hbd).trans c2
            have hD2 : (w4.alloc (.cells #[.int .i64 s1, .int .u64 n1, .string t1] 30)).cell? ⟨b, o + i * 6 + 2, none⟩ = some (.string text) := (((Mod.refl [] w4).alloc _).cell (p := ⟨b, o + i * 6 + 2, none⟩) (Nat.lt_of_lt_of_le hbw hM4.size) (by simp)).trans d2
            have HR4 := Lib.hid (HB.out.ref.mod hM4 (by have := HBL.out; simp; omega) (by simp))
            have HM4 := Lib.hid hM4
            have HD4 := Lib.hid hD4
            have HW4 := Lib.hid hM4.size
            clear her hmv hnu2 hL2 hM4 hD4 c0 c1 c2 c3 c4 c5 hbw hbd d2
            go_wp2_with fail
            have hG5 : ∀ s ∈ [w4.heap.size] ++ [d, r], s < (w4.alloc (.cells #[.int .i64 s1, .int .u64 n1, .string t1] 30)).heap.size := by
              have h1 := HD4.out.lt
              obtain ⟨_, _, _, _, _, _, _, h6, _⟩ := HR4.out
              simp
              omega
            refine (rsend_any w3.heap.size ([w4.heap.size] ++ [d, r]) r me nu L text _ ((HR4.out.more [w4.heap.size] (by simp)).same ((Mod.refl [] _).alloc _)) hG5 (sz_le HB.out HW4.out)).mono ?_
            intro e w6 hp
            obtain ⟨he, ⟨S6, hM6, hS6⟩, hR6⟩ := hp
            rw [HER.out.1, HER.out.2.1] at he
            rw [HER.out.1, HER.out.2.2.1, HER.out.2.2.2] at hR6
            have he2 : e = .returned (.tuple #[.agg #[.int .i64 s1, .int .u64 n1, .string t1], .int .i64 er]) := he
            clear he hG5
            subst he2
            have hb1 : w4.heap.size ∉ S6 := fun h => by
              rcases hS6 _ h with h | h
              · obtain ⟨_, _, _, _, _, _, _, h6, _⟩ := HR4.out
                omega
              · exact h.2 (by simp)
            have hblk : w6.heap[w4.heap.size]? = some (.cells #[.int .i64 s1, .int .u64 n1, .string t1] 30) := (hM6.block _ (by simp) hb1).trans (heap_new _ _)
            have z0 : w6.cell? ⟨w4.heap.size, 0, none⟩ = some (.int .i64 s1) := cell_in hblk rfl
            have z1 : w6.cell? ⟨w4.heap.size, 1, none⟩ = some (.int .u64 n1) := cell_in hblk rfl
            have z2 : w6.cell? ⟨w4.heap.size, 2, none⟩ = some (.string t1) := cell_in hblk rfl
            have hltw : w4.heap.size < w6.heap.size := block_lt_of_cell z0
            have hdS : d ∉ S6 := fun h => by
              rcases hS6 _ h with h | h
              · have := HBL.out; omega
              · exact h.2 (by simp)
            have hbt : BothAt w (w6.alloc (.cells #[.int .i64 s1, .int .u64 n1, .string t1] 30)) w3.heap.size d r me nu2 L2 := by
              refine BothAt.same ⟨(HD4.out.mod ((Mod.refl [] _).alloc _) (by simp)).mod hM6 hdS, hR6.less (by simp), ?_, ?_, by have h1 := HB.out.base; have h2 := HW4.out; have h3 := hM6.size; simp at h3; omega⟩ ((Mod.refl [] _).alloc _)
              · rw [← HER.out.2.2.2]
                split
                · intro m hm
                  rcases List.mem_append.1 hm with h | h
                  · exact HB.out.mine m h
                  · simp at h; rw [h]
                · exact HB.out.mine
              · refine ((HB.out.mod.step HM4.out (by have := HBL.out; simp; omega)).alloc _).step hM6 (fun s hs => .inr ?_)
                have h3 := HBL.out
                rcases hS6 s hs with h | h
                · omega
                · have := HB3S.out; omega
            have HBT := Lib.hid hbt
            have qe : (er == er) = true := by simp
            clear hM6 hS6 hR6 hb1 hblk hdS hbt hD2
            go_wp2_with fail
            obtain ⟨n2, hn2⟩ : ∃ n2, L2.length = n2 := ⟨_, rfl⟩
            have HN2 := Lib.hid hn2
            have qq : (nu2 != nu2) = false := by simp
            clear hn2
            refine (dnum_at d me nu2 L2 _ HBT.out.desk).mono ?_
            rintro e w3' ⟨rfl, rfl⟩
            go_wp2_with fail
            refine (rdnum_any w3.heap.size [d, r] r me nu2 L2 _ HBT.out.ref).mono ?_
            rintro e w3' ⟨rfl, rfl⟩
            go_wp2_with fail
            refine (waits_both 99 HBT.out (take99 HBT.out.desk.len) HN2.out).mono ?_
            rintro e w4 ⟨a4, k4, rfl, hr4, hB4, _⟩
            have HB4 := Lib.hid hB4
            have HR4 := Lib.hid hr4
            clear hr4 hB4
            go_wp2_with fail
            refine (rwaits_both 99 (by decide) HB4.out (take99 HB4.out.desk.len) HN2.out).mono ?_
            rintro e w5 ⟨a5, k5, rfl, hr5, hB5, hM5⟩
            have HB5 := Lib.hid hB5
            have HR5 := Lib.hid hr5
            have HR45 := Lib.hid (HR4.out.mod hM5 (by simp))
            clear hr5 hB5 hM5
            go_wp2_with fail
            refine (same_eqn L2 a4 a5 k4 k5 _ _ HR45.out HR5.out HN2.out (by have := HB5.out.desk.len; have := HN2.out; omega)).mono ?_
            rintro e w6 ⟨rfl, q6, rfl⟩
            go_wp2_with fail
            go_roundw
            case rel => exact ⟨i + 1, nu2, L2, by go_num, hlt', HB5.out.same ((Mod.refl _ _).drewN _)⟩
            case measure => simp [intOf]; omega
        have e0 : (kind == 0) = false := by simp; omega
        have e1 : (kind == 1) = false := by simp; omega
        have e2 : (kind == 2) = false := by simp; omega
        have e3 : (kind == 3) = false := by simp; omega
        have e4 : (kind == 4) = false := by simp; omega
        clear hk1 hk2 hk3 hk4
        go_wp2_with fail
        obtain ⟨nu2, hnu2⟩ : ∃ nu2, nu2 = nu := ⟨_, rfl⟩
        obtain ⟨L2, hL2⟩ : ∃ L2, L2 = L := ⟨_, rfl⟩
        have HBT := Lib.hid (show BothAt w wr w3.heap.size d r me nu2 L2 by rw [hnu2, hL2]; exact HB.out)
        clear hnu2 hL2 c0 c1 c2 c3 c4 c5
        obtain ⟨n2, hn2⟩ : ∃ n2, L2.length = n2 := ⟨_, rfl⟩
        have HN2 := Lib.hid hn2
        have qq : (nu2 != nu2) = false := by simp
        clear hn2
        refine (dnum_at d me nu2 L2 _ HBT.out.desk).mono ?_
        rintro e w3' ⟨rfl, rfl⟩
        go_wp2_with fail
        refine (rdnum_any w3.heap.size [d, r] r me nu2 L2 _ HBT.out.ref).mono ?_
        rintro e w3' ⟨rfl, rfl⟩
        go_wp2_with fail
        refine (waits_both 99 HBT.out (take99 HBT.out.desk.len) HN2.out).mono ?_
        rintro e w4 ⟨a4, k4, rfl, hr4, hB4, _⟩
        have HB4 := Lib.hid hB4
        have HR4 := Lib.hid hr4
        clear hr4 hB4
        go_wp2_with fail
        refine (rwaits_both 99 (by decide) HB4.out (take99 HB4.out.desk.len) HN2.out).mono ?_
        rintro e w5 ⟨a5, k5, rfl, hr5, hB5, hM5⟩
        have HB5 := Lib.hid hB5
        have HR5 := Lib.hid hr5
        have HR45 := Lib.hid (HR4.out.mod hM5 (by simp))
        clear hr5 hB5 hM5
        go_wp2_with fail
        refine (same_eqn L2 a4 a5 k4 k5 _ _ HR45.out HR5.out HN2.out (by have := HB5.out.desk.len; have := HN2.out; omega)).mono ?_
        rintro e w6 ⟨rfl, q6, rfl⟩
        go_wp2_with fail
        go_roundw
        case rel => exact ⟨i + 1, nu2, L2, by go_num, hlt', HB5.out.same ((Mod.refl _ _).drewN _)⟩
        case measure => simp [intOf]; omega
      · obtain ⟨n', hn'⟩ : ∃ n', L.length = n' := ⟨_, rfl⟩
        have HNL := Lib.hid hn'
        clear hn'
        go_wp2_with fail
        refine (waits_both 99 HB.out (take99 HB.out.desk.len) HNL.out).mono ?_
        rintro e w4 ⟨a4, k4, rfl, hr4, hB4, _⟩
        have HB4 := Lib.hid hB4
        have HR4 := Lib.hid hr4
        clear hr4 hB4
        go_wp2_with fail
        refine (rwaits_both 99 (by decide) HB4.out (take99 HB4.out.desk.len) HNL.out).mono ?_
        rintro e w5 ⟨a5, k5, rfl, hr5, hB5, hM5⟩
        have HB5 := Lib.hid hB5
        have HR5 := Lib.hid hr5
        have HR45 := Lib.hid (HR4.out.mod hM5 (by simp))
        clear hr5 hB5 hM5
        go_wp2_with fail
        refine (same_eqn L a4 a5 k4 k5 _ _ HR45.out HR5.out HNL.out (by have := HB5.out.desk.len; have := HNL.out; omega)).mono ?_
        rintro e w6 ⟨rfl, q6, rfl⟩
        go_wp2_with fail
        go_ret
        exact ⟨rfl, HB5.out.mod.drewN _⟩

end Go.Proofs.Ytkafejbfhmolhaa
