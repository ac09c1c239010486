/-
  The walk of the law OrderWaits.
-/
import Derived.Test.YtonpfpldmgochaaOrdA
import Derived.Test.YtonpfpldmgochaaDeskC
import Derived.Test.YtonpfpldmgochaaSameMs
import Derived.Test.YtonpfpldmgochaaStrArg
namespace Go.Proofs.Ytonpfpldmgochaa
open Go.RowKit

theorem send_bad {w : World} {d : Nat} {me num er : Int} {L : List M} {t : ByteArray} (he : sendErr num L.length t = er) (h0 : er ≠ 0) {e : Ending} {w' : World} (h : SendPost w d me num L t e w') :
    e = .returned (.tuple #[.agg #[.int .i64 0, .int .u64 0, .string ⟨#[]⟩], .int .i64 er]) ∧ Mod [d] w w' ∧ DeskAt w' d me num L := by
  obtain ⟨h1, h2, h3⟩ := h
  rw [he, if_neg h0] at h1
  rw [he, if_neg h0, if_neg h0] at h3
  exact ⟨h1, h2, h3⟩
theorem send_good {w : World} {d : Nat} {me num : Int} {L : List M} {t : ByteArray} (he : sendErr num L.length t = 0) {e : Ending} {w' : World} (h : SendPost w d me num L t e w') :
    e = .returned (.tuple #[.agg #[.int .i64 me, .int .u64 (num + 1), .string t], .int .i64 0]) ∧ Mod [d] w w' ∧ DeskAt w' d me (num + 1) (L ++ [(me, num + 1, t)]) := by
  obtain ⟨h1, h2, h3⟩ := h
  rw [he, if_pos rfl] at h1
  rw [he, if_pos rfl, if_pos rfl] at h3
  exact ⟨h1, h2, h3⟩
theorem seen_yes {w : World} {d : Nat} {me num : Int} {L : List M} {m : M} (hs : seenOk me L m = true) {e : Ending} {w' : World} (h : SeenPost w d me num L m e w') :
    e = .returned (.bool true) ∧ Mod [d] w w' ∧ DeskAt w' d me num L.tail := by
  obtain ⟨h1, h2, h3⟩ := h
  rw [hs] at h1 h3
  exact ⟨h1, h2, h3⟩
theorem dnum_at (d : Nat) (me num : Int) (L : List M) (w : World) (h : DeskAt w d me num L) :
    Calls Try.prog 10 #[.pointer (some ⟨d, 0, none⟩)] w fun e w' => e = .returned (.int .u64 num) ∧ w = w' := by
  obtain ⟨head, r, hr, _⟩ := h
  exact dnum_any d me num head _ r w hr
theorem DeskAt.len {w : World} {d : Nat} {me num : Int} {L : List M} (h : DeskAt w d me num L) : L.length ≤ 8 := by
  obtain ⟨head, r, hr, _⟩ := h
  have := hr.m1
  omega
theorem DeskAt.lt {w : World} {d : Nat} {me num : Int} {L : List M} (h : DeskAt w d me num L) : d < w.heap.size := by
  obtain ⟨head, r, hr, _⟩ := h
  exact hr.lt

theorem desk_grown {w w' : World} {d : Nat} {me num : Int} {L : List M} {r : Option Nat} (h : DeskAt w d me num L) (hg : w.grownBy w' r) (hr : r ≠ some d) : DeskAt w' d me num L := by
  cases r with
  | none => exact h.mod (S := []) ((Mod.refl [] w).grown' hg (fun b hb => by cases hb)) (by simp)
  | some b => exact h.mod (S := [b]) ((Mod.refl [b] w).grown hg (.inl (by simp))) (by simp; intro e; exact hr (by rw [e]))

structure WtInv (w0 wr : World) (d B : Nat) (L : List M) (v : Value) : Prop where
  desk : DeskAt wr d 5 (100 + (L.length : Int)) L
  own : OwnMs wr B v L
  mine : ∀ m ∈ L, m.1 = 5
  mod : Mod [] w0 wr
  big : B ≤ wr.heap.size

theorem WtInv.mod' {w0 wr w' : World} {d B : Nat} {L : List M} {v : Value} (h : WtInv w0 wr d B L v) (hm : Mod [] wr w') : WtInv w0 w' d B L v :=
  ⟨h.desk.mod hm (by simp), h.own.mod hm (by simp), h.mine, h.mod.trans hm, Nat.le_trans h.big hm.size⟩

def WtRel (w0 : World) (d B n : Nat) (v u : Value) (wr : World) : Prop :=
  ∃ (i : Nat) (L : List M), u = .int .i64 i ∧ i ≤ n ∧ WtInv w0 wr d B L v

theorem RdMs.drop {w : World} {a : Option Addr} {L : List M} (h : RdMs w a L) (k : Nat) (hk : k < L.length) : ∃ g o, a = some ⟨g, o, none⟩ ∧ RdMs w (some ⟨g, o + k * 3, none⟩) (L.drop k) := by
  obtain ⟨g, o, rfl, hlt, hr⟩ := h (by intro e; rw [e] at hk; simp at hk)
  refine ⟨g, o, rfl, fun _ => ⟨g, _, rfl, hlt, fun j v hv => ?_⟩⟩
  have e : flat L = flat (L.take k) ++ flat (L.drop k) := by rw [← flat_append, List.take_append_drop]
  have hl : (flat (L.take k)).length = k * 3 := by rw [flat_length, List.length_take]; omega
  have := hr (k * 3 + j) v (by rw [e, List.getElem?_append_right (by omega), hl]; simpa using hv)
  rw [← Nat.add_assoc] at this
  exact this

theorem wrapu {a : Int} (h0 : 0 ≤ a) (h1 : a ≤ 18446744073709551615) : IntKind.u64.wrap a = a := by simp [IntKind.wrap, IntKind.bits, IntKind.signed]; omega

/-- What is held in the last statement. -/
def HeldW (w0 : World) (d : Nat) (N : Int) (LL : List M) (va : Option Addr) (L : List M) (w : World) : Prop := DeskAt w d 5 N LL ∧ RdMs w va L ∧ Mod [] w0 w

theorem HeldW.drewN {w0 w : World} {d : Nat} {N : Int} {LL L : List M} {va : Option Addr} {q : Nat} (h : HeldW w0 d N LL va L w) : HeldW w0 d N LL va L (w.drewN q) :=
  ⟨h.1.mod ((Mod.refl [] _).drewN _) (by simp), h.2.1.mod ((Mod.refl [] _).drewN _) (by simp), h.2.2.drewN _⟩

theorem waits_held {w0 w : World} {d m : Nat} {N : Int} {LL L : List M} {va : Option Addr} (h : HeldW w0 d N LL va L w) (hm : LL.length = m) :
    Calls Try.prog 9 #[.pointer (some ⟨d, 0, none⟩), .int .i64 99] w fun e w' => ∃ a c, e = .returned (.slice a m c) ∧ RdMs w' a LL ∧ HeldW w0 d N LL va L w' := by
  have h8 := h.1.len
  refine (waits_any d 5 N LL 99 LL.length w h.1 (by omega)).mono ?_
  rintro e w6 ⟨v, rfl, hO, hM⟩
  rw [List.take_length] at hO
  obtain ⟨a, c, rfl, hr, _⟩ := hO.shape
  exact ⟨a, c, by rw [hm], hr, h.1.mod hM (by simp), h.2.1.mod hM (by simp), h.2.2.trans hM⟩

theorem same_eqn (L : List M) (a b : Option Addr) (c c2 n n2 : Nat) (w : World) (ha : RdMs w a L) (hb : RdMs w b L) (hn : L.length = n) (hn2 : n2 = n) (hl : n ≤ 1000000) :
    Calls Try.prog 8 #[.slice a n c, .slice b n2 c2] w fun e w' => e = .returned (.bool true) ∧ ∃ m, w' = w.drewN m := by
  subst hn2
  subst hn
  exact same_eq L a b c c2 w ha hb hl

theorem num_held {w0 w : World} {d : Nat} {N : Int} {LL L : List M} {va : Option Addr} (h : HeldW w0 d N LL va L w) :
    Calls Try.prog 10 #[.pointer (some ⟨d, 0, none⟩)] w fun e w' => e = .returned (.int .u64 N) ∧ w = w' := dnum_at d 5 N LL w h.1

theorem rd_held {w0 w : World} {d g k : Nat} {N : Int} {LL L : List M} (h : HeldW w0 d N LL (some ⟨g, 0, none⟩) L w) (hk : k < L.length) : RdMs w (some ⟨g, k * 3, none⟩) (L.drop k) := by
  obtain ⟨g2, o2, e, hr⟩ := h.2.1.drop k hk
  injection e with e
  injection e with e1 e2
  subst e1 e2
  rw [Nat.zero_add] at hr
  exact hr

set_option maxRecDepth 100000 in
set_option maxHeartbeats 16000000 in
theorem walk_OrderWaits (w : World) (a : Option Addr) (c : Nat) (ts : List ByteArray) (rd : StrsAt w a ts) (seen : Int) (seen0 : 0 ≤ seen) (seen1 : seen ≤ 255) :
    Calls Try.prog 3 #[.slice a ts.length c, .int .u8 seen] w (TruePost w) := by
  have RD := Lib.hid rd
  clear rd
  by_cases h1 : (20 : Int) < ts.length
  · go_enter Try.func3, Try.ntmps3
    go_wp2_with fail
    refine (shown18 _).mono ?_
    rintro e w1 ⟨rfl, hM⟩
    have HM := Lib.hid hM
    clear hM
    go_wp2_with fail
    go_ret
    exact ⟨rfl, HM.out⟩
  go_enter Try.func3, Try.ntmps3
  go_wp2_with fail
  refine (shown18 _).mono ?_
  rintro e w1 ⟨rfl, hM⟩
  have HM1 := Lib.hid hM
  clear hM
  go_wp2_with fail
  refine (newdesk_any 5 100 _ (by decide) (by decide) (by decide)).mono ?_
  rintro e w2 ⟨d, rfl, hd, hD, hM⟩
  have HD2 := Lib.hid hD
  have HM2 := Lib.hid (HM1.out.trans hM)
  have HDD := Lib.hid (show w.heap.size ≤ d by have := HM1.out.size; omega)
  have HDL := Lib.hid hD.lt
  have HMW := Lib.hid (HM1.out.trans hM).size
  clear hD hM hd
  go_wp2_with fail
  go_loopw [6, 7] (fun v u wr => WtRel w d w2.heap.size ts.length v u wr) (fun _ u _ => ts.length - (intOf u).toNat)
  case atStart => exact ⟨0, [], rfl, Nat.zero_le _, HD2.out.mod ((Mod.refl [] _).alloc _) (by simp), OwnMs.empty (heap_new _ _) (Nat.le_refl _), by simp, HM2.out.alloc _, by simp⟩
  case round =>
    obtain ⟨i, L, rfl, hi, hinv⟩ := hrel
    have HI := Lib.hid hinv
    have HMB := Lib.hid (hinv.big)
    have hL8 := hinv.desk.len
    obtain ⟨va, vc, hv, hvr, hnc, hvc, hvm, hvg⟩ := hinv.own.shape
    have HNC := Lib.hid hnc
    clear hnc
    clear hinv
    obtain ⟨n, hn⟩ : ∃ n, L.length = n := ⟨_, rfl⟩
    rw [hn] at hL8 hv hvc
    have HV := Lib.hid hv
    have HVR := Lib.hid hvr
    have HVG := Lib.hid hvg
    have HN := Lib.hid hn
    clear hn hvr hvg
    by_cases hlx : (i : Int) < ts.length
    · have hlx' : i < ts.length := by omega
      obtain ⟨t, hx⟩ : ∃ t, ts[i]? = some t := ⟨_, List.getElem?_eq_getElem hlx'⟩
      obtain ⟨ad, rfl, hadl, hcx⟩ := RD.out (by intro h; rw [h] at hlx'; simp at hlx')
      obtain ⟨cx0, hsz⟩ := hcx i t hx
      have hab : (ad.add i).block < w.heap.size := by rw [add_block]; exact hadl
      have cx : wr.cell? (ad.add i) = some (.string t) := (HI.out.mod.cell hab (by simp)).trans cx0
      have CALL := Lib.hid (send_any d 5 (100 + (L.length : Int)) L t wr HI.out.desk hsz)
      obtain ⟨z, hz⟩ : ∃ z, t.size = z := ⟨_, rfl⟩
      have HAB := Lib.hid hab
      clear hcx hx cx0 hab hsz hadl
      subst hv
      have far : ∀ w3 o, Mod [d] wr w3 → (w3.alloc o).cell? (ad.add i) = some (.string t) := fun w3 o hM => by
        refine (((Mod.refl [] w3).alloc _).cell ?_ (by simp)).trans ((hM.cell ?_ ?_).trans cx)
        · have := HAB.out; have := HI.out.mod.size; have := hM.size; omega
        · have := HAB.out; have := HI.out.mod.size; omega
        · have := HAB.out; have := HDD.out; simp only [List.mem_singleton]; omega
      have FAR := Lib.hid far
      clear far
      by_cases h64 : 64 < z
      · have herr : sendErr (100 + (L.length : Int)) L.length t = 12 := by unfold sendErr; rw [if_pos (by omega)]
        have hz64 : decide ((z : Int) ≤ 64) = false := by simp; omega
        have HE := Lib.hid herr
        clear herr
        go_wp2_with fail
        refine CALL.out.mono ?_
        intro e w3 hp
        obtain ⟨rfl, hM3, hD3⟩ := send_bad HE.out (by decide) hp
        have cx3 := FAR.out w3 (.cells #[.int .i64 0, .int .u64 0, .string ⟨#[]⟩] 29) hM3
        have HI3 := Lib.hid (show WtInv w (w3.alloc (.cells #[.int .i64 0, .int .u64 0, .string ⟨#[]⟩] 29)) d w2.heap.size L (.slice va n vc) from
          ⟨hD3.mod ((Mod.refl [] _).alloc _) (by simp), (HI.out.own.mod hM3 (fun b hb => by have := (HI.out.own.own_ge b hb).1; have := HDL.out; simp; omega)).mod ((Mod.refl [] _).alloc _) (by simp), HI.out.mine, (HI.out.mod.step hM3 (by have := HDD.out; simp; omega)).alloc _, by have := HI.out.big; have := hM3.size; simp; omega⟩)
        clear hp hM3 hD3 cx
        go_wp2_with fail
        go_quiet (fail)
        go_wp2_with fail
        go_roundw
        case rel => exact ⟨i + 1, L, by go_num, by omega, HI3.out.mod' ((Mod.refl [] _).drewN _)⟩
        case measure => simp [intOf]; omega
      have hz64 : decide ((z : Int) ≤ 64) = true := by simp; omega
      by_cases hn8 : n = 8
      · have herr : sendErr (100 + (L.length : Int)) L.length t = 180 := by unfold sendErr; rw [if_neg (by omega), if_pos (by have := HN.out; omega)]
        have hnd : decide ((n : Int) < 8) = false := by simp; omega
        clear hn8
        have HE := Lib.hid herr
        clear herr
        go_wp2_with fail
        refine CALL.out.mono ?_
        intro e w3 hp
        obtain ⟨rfl, hM3, hD3⟩ := send_bad HE.out (by decide) hp
        have cx3 := FAR.out w3 (.cells #[.int .i64 0, .int .u64 0, .string ⟨#[]⟩] 29) hM3
        have HI3 := Lib.hid (show WtInv w (w3.alloc (.cells #[.int .i64 0, .int .u64 0, .string ⟨#[]⟩] 29)) d w2.heap.size L (.slice va n vc) from
          ⟨hD3.mod ((Mod.refl [] _).alloc _) (by simp), (HI.out.own.mod hM3 (fun b hb => by have := (HI.out.own.own_ge b hb).1; have := HDL.out; simp; omega)).mod ((Mod.refl [] _).alloc _) (by simp), HI.out.mine, (HI.out.mod.step hM3 (by have := HDD.out; simp; omega)).alloc _, by have := HI.out.big; have := hM3.size; simp; omega⟩)
        clear hp hM3 hD3 cx
        go_wp2_with fail
        go_quiet (fail)
        go_wp2_with fail
        go_roundw
        case rel => exact ⟨i + 1, L, by go_num, by omega, HI3.out.mod' ((Mod.refl [] _).drewN _)⟩
        case measure => simp [intOf]; omega
      have herr : sendErr (100 + (L.length : Int)) L.length t = 0 := by unfold sendErr; rw [if_neg (by omega), if_neg (by have := HN.out; omega), if_neg (by have := HN.out; omega)]
      have HE := Lib.hid herr
      clear herr
      go_wp2_with fail
      refine CALL.out.mono ?_
      intro e w3 hp
      obtain ⟨rfl, hM3, hD3⟩ := send_good HE.out hp
      obtain ⟨q, hq⟩ : ∃ q, 100 + (L.length : Int) + 1 = q := ⟨_, rfl⟩
      rw [hq] at hD3 ⊢
      have cx3 := FAR.out w3 (.cells #[.int .i64 5, .int .u64 q, .string t] 29) hM3
      have HO3 := Lib.hid (HI.out.own.mod hM3 (fun b hb => by have := (HI.out.own.own_ge b hb).1; have := HDL.out; simp; omega))
      have HM3 := Lib.hid (HI.out.mod.step hM3 (by have := HDD.out; simp; omega))
      have HD3 := Lib.hid hD3
      have HQ := Lib.hid hq
      have HS3 := Lib.hid hM3.size
      have HCX := Lib.hid cx3
      clear hp hM3 hD3 cx hq cx3
      go_wp2_with (at_builtin; with_reducible refine wpList_append_msg rfl _ _ rfl w2.heap.size _ L rfl ((HO3.out.mod ((Mod.refl [] _).alloc _) (by simp)).mod ((Mod.refl [] _).alloc _) (by simp)) _ _ (5, q, t) rfl ?o1 ?o2 ?o3 ?o4)
      case o1 => exact fun j v hv => by rw [Nat.zero_add]; exact cell_in (heap_top _ _ _) (by simpa [mcells] using hv)
      case o2 => have := HN.out; omega
      case o3 => have := HS3.out; have h5 := HMB.out; simp; omega
      case o4 =>
        intro v' w4 hO hgr hat
        have hne : ∀ b, (Value.slice va n vc).ownBlock = some b → w2.heap.size ≤ b ∧ b < w3.heap.size := HO3.out.own_ge
        have hblk : w4.heap[w3.heap.size]? = some (.cells #[.int .i64 5, .int .u64 q, .string t] 29) := (hgr.block _ (by simp; omega) (fun e => by have := (hne _ e.symm).2; omega)).trans (heap_two _ _ _)
        have z0 : w4.cell? ⟨w3.heap.size, 0, none⟩ = some (.int .i64 5) := cell_in hblk rfl
        have z2 : w4.cell? ⟨w3.heap.size, 2, none⟩ = some (.string t) := cell_in hblk rfl
        have cx4 : w4.cell? (ad.add i) = some (.string t) := by
          refine (World.cell?_of_block (hgr.block _ ?_ ?_)).trans ((((Mod.refl [] _).alloc _).cell ?_ (by simp)).trans HCX.out)
          · have := HAB.out; have := HM3.out.size; simp; omega
          · intro e; have := (hne _ e.symm).1; have := HAB.out; have := HMW.out; omega
          · have := HAB.out; have := HM3.out.size; simp; omega
        have hD4 := desk_grown ((HD3.out.mod ((Mod.refl [] _).alloc (.cells #[.int .i64 5, .int .u64 q, .string t] 29)) (by simp)).mod ((Mod.refl [] _).alloc (.cells #[.int .i64 5, .int .u64 q, .string t] 29)) (by simp)) hgr (fun e => by have := (hne _ e).1; have := HDL.out; omega)
        have hM4 := ((HM3.out.alloc (.cells #[.int .i64 5, .int .u64 q, .string t] 29)).alloc (.cells #[.int .i64 5, .int .u64 q, .string t] 29)).grown' hgr (fun b hb => by have := (hne b hb).1; have := HMW.out; omega)
        have HI4 := Lib.hid (show WtInv w w4 d w2.heap.size (L ++ [(5, q, t)]) v' from
          ⟨by have e : (100 + ((L ++ [((5, q, t) : M)]).length : Int)) = q := by rw [← HQ.out]; simp; omega
              rw [e]; exact hD4, hO, fun m hm => by rcases List.mem_append.1 hm with h | h; exact HI.out.mine m h; simp at h; rw [h], hM4, by have := HMB.out; have := HS3.out; have := hgr.size; simp at this; omega⟩)
        clear hblk hD4 hM4 hO hgr hat hne
        go_wp2_with fail
        go_quiet (fail)
        go_wp2_with fail
        go_roundw
        case rel => exact ⟨i + 1, _, by go_num, by omega, HI4.out.mod' ((Mod.refl [] _).drewN _)⟩
        case measure => simp [intOf]; omega
    · have hne : i = ts.length := by omega
      subst hne
      subst hv
      clear hlx
      obtain ⟨k, hk⟩ : ∃ k : Nat, seen % ((n : Int) + 1) = k := ⟨(seen % ((n : Int) + 1)).toNat, by have := Int.emod_nonneg seen (show (n : Int) + 1 ≠ 0 by omega); omega⟩
      have hkn : k ≤ n := by have := Int.emod_lt_of_pos seen (show 0 < (n : Int) + 1 by omega); omega
      have HIm := Lib.hid HI.out.mine
      have HD0 := Lib.hid (show DeskAt wr d 5 (100 + (L.length : Int)) (L.drop 0) from HI.out.desk)
      have HIM := Lib.hid HI.out.mod
      have HDn := Lib.hid (show ∀ g, va = some ⟨g, 0, none⟩ → g ≠ d ∧ g < wr.heap.size ∧ w.heap.size ≤ g by
        intro g hg
        have h1 := HI.out.own.own_ge g (by rw [hg]; rfl)
        have := HDL.out
        have := HMW.out
        omega)
      go_wp2_with fail
      obtain ⟨wA, rfl⟩ : ∃ wA, wA = wr := ⟨_, rfl⟩
      go_loopw [11] (fun v wr => ∃ j : Nat, v = .int .i64 j ∧ j ≤ k ∧ DeskAt wr d 5 (100 + (L.length : Int)) (L.drop j) ∧ Mod [d] wA wr) (fun v _ => k - (intOf v).toNat)
      case atStart => exact ⟨0, rfl, Nat.zero_le _, HD0.out, Mod.refl _ _⟩
      case round =>
        obtain ⟨j, rfl, hj, hDr, hMr⟩ := hrel
        have HDr := Lib.hid hDr
        have HMr := Lib.hid hMr
        clear hDr hMr
        by_cases hjk : (j : Int) < k
        · have hjL : j < L.length := by have := HN.out; omega
          obtain ⟨⟨s, num, t⟩, hm⟩ : ∃ m, L[j]? = some m := ⟨_, List.getElem?_eq_getElem hjL⟩
          obtain ⟨g, o, rfl, hlt, hr⟩ := HVR.out (by intro e; rw [e] at hjL; simp at hjL)
          have ho : o = 0 := by
            obtain ⟨g2, e, _⟩ := HVG.out _ rfl
            injection e
          subst ho
          have hs5 : s = 5 := HIm.out _ (List.mem_of_getElem? hm)
          subst hs5
          have hat := RdMs.at hr hm
          have hgd := HDn.out g rfl
          have hgn : g ∉ [d] := by simp; exact hgd.1
          have x0 : wr.cell? ⟨g, 0 + j * 3, none⟩ = some (.int .i64 5) := (HMr.out.cell (p := ⟨g, 0 + j * 3, none⟩) hgd.2.1 hgn).trans (hat 0 _ rfl)
          have x1 : wr.cell? ⟨g, 0 + j * 3 + 1, none⟩ = some (.int .u64 num) := (HMr.out.cell (p := ⟨g, 0 + j * 3 + 1, none⟩) hgd.2.1 hgn).trans (hat 1 _ rfl)
          have x2 : wr.cell? ⟨g, 0 + j * 3 + 2, none⟩ = some (.string t) := (HMr.out.cell (p := ⟨g, 0 + j * 3 + 2, none⟩) hgd.2.1 hgn).trans (hat 2 _ rfl)
          rw [Nat.zero_add] at x0 x1 x2
          have hdrop : L.drop j = (5, num, t) :: L.drop (j + 1) := by
            rw [List.drop_eq_getElem_cons hjL]
            congr 1
            exact Option.some.inj ((List.getElem?_eq_getElem hjL).symm.trans hm)
          have hok : seenOk 5 (L.drop j) (5, num, t) = true := by rw [hdrop]; simp [seenOk]
          have CALL := Lib.hid (seen_any d 5 _ _ (5, num, t) _ HDr.out)
          have HOK := Lib.hid hok
          have HDP := Lib.hid hdrop
          clear hat hr hm hok hdrop hgd hgn
          go_wp2_with fail
          refine CALL.out.mono ?_
          intro e w3 hp
          obtain ⟨rfl, hM, hD⟩ := seen_yes HOK.out hp
          rw [HDP.out] at hD
          have HD3 := Lib.hid (show DeskAt w3 d 5 (100 + (L.length : Int)) (L.drop (j + 1)) from hD)
          have HM3 := Lib.hid (HMr.out.trans hM)
          clear hp hM hD x0 x1 x2
          go_wp2_with fail
          go_roundw
          case rel => exact ⟨j + 1, by go_num, by omega, HD3.out, HM3.out⟩
          case measure => simp [intOf]; omega
        · have hjk2 : j = k := by omega
          subst hjk2
          have hcv : (n : Int) % 18446744073709551616 = n := by omega
          have hcs : (100 + (n : Int)) % 18446744073709551616 = 100 + (n : Int) := by omega
          have hRr : RdMs wr va L := HVR.out.mod HMr.out (fun g o e => by
            obtain ⟨g2, e2, _⟩ := HVG.out _ e
            injection e2 with e3 e4
            subst e3 e4
            simp
            exact (HDn.out g e).1)
          have HS0 := Lib.hid (show HeldW wr d (100 + (n : Int)) (L.drop j) va L wr.drew from ⟨(show DeskAt wr d 5 (100 + (n : Int)) (L.drop j) by rw [← HN.out]; exact HDr.out).mod (Mod.refl [] _).drew (by simp), hRr.mod (Mod.refl [] _).drew (by simp), (Mod.refl _ _).drew⟩)
          have HLD := Lib.hid (show (L.drop j).length = n - j by rw [List.length_drop, HN.out])
          have HMF := Lib.hid (show Mod [] w wr from HIM.out.step HMr.out (by have := HDD.out; simp; omega))
          have hNb : ((100 + (n : Int)) == (100 + (n : Int))) = true := by simp
          clear hRr hi
          by_cases hjn : j < n
          · obtain ⟨g, o, rfl, _, _⟩ := HVR.out (by intro e; have := HN.out; rw [e] at this; simp at this; omega)
            have ho : o = 0 := by
              obtain ⟨g2, e, _⟩ := HVG.out _ rfl
              injection e
            subst ho
            go_wp2_with fail
            go_region_held3 (fun w' => HeldW wr d (100 + (n : Int)) (L.drop j) (some ⟨g, 0, none⟩) L w') (first | exact HS0.out | assumption | exact HeldW.drewN (by assumption)) (first
              | (go_at_call 9; refine (waits_held (by assumption) HLD.out).mono ?_; rintro e w6 ⟨a6, c6, rfl, hr6, hk6⟩)
              | (go_at_call 8; refine (same_eqn (L.drop j) _ _ _ _ _ _ _ (by assumption) (rd_held (by assumption) (by have := HN.out; omega)) HLD.out (by omega) (by omega)).mono ?_; rintro e w7 ⟨rfl, q7, rfl⟩)
              | (go_at_call 10; refine (num_held (by assumption)).mono ?_; rintro e w8 ⟨rfl, rfl⟩))
            all_goals
              rename_i hk6
              go_wp2_with fail
              go_ret
              exact ⟨by simp; rw [wrapu (a := (n : Int)) (by omega) (by omega), wrapu (a := 100 + (n : Int)) (by omega) (by omega)], HMF.out.trans hk6.2.2⟩
          · obtain rfl : j = n := by omega
            have hnil : L.drop j = [] := List.drop_eq_nil_of_le (by have := HN.out; omega)
            rw [hnil] at HS0
            have HLD0 := Lib.hid (show ([] : List M).length = 0 from rfl)
            cases va with
            | none =>
              obtain rfl : vc = 0 := HNC.out rfl
              have hj0 : j = 0 := by omega
              subst hj0
              clear HVG HDn
              go_wp2_with fail
              go_region_held3 (fun w' => HeldW wr d (100 + (((0 : Nat) : Int) : Int)) [] none L w') (first | exact HS0.out | assumption | exact HeldW.drewN (by assumption)) (first
                | (go_at_call 9; refine (waits_held (by assumption) HLD0.out).mono ?_; rintro e w6 ⟨a6, c6, rfl, hr6, hk6⟩)
                | (go_at_call 8; refine (same_eqn [] _ _ _ _ _ _ _ (by assumption) (fun h => absurd rfl h) HLD0.out (by omega) (by omega)).mono ?_; rintro e w7 ⟨rfl, q7, rfl⟩)
                | (go_at_call 10; refine (num_held (by assumption)).mono ?_; rintro e w8 ⟨rfl, rfl⟩))
              all_goals
                rename_i hk6
                go_wp2_with fail
                go_ret
                exact ⟨by simp; rw [wrapu (a := 0) (by omega) (by omega), wrapu (a := 100 + 0) (by omega) (by omega)]; rfl, HMF.out.trans hk6.2.2⟩
            | some ad =>
              obtain ⟨g, rfl, _⟩ := HVG.out _ rfl
              clear HVG HDn
              by_cases hvj : vc = j
              · subst hvj
                go_wp2_with fail
                go_region_held3 (fun w' => HeldW wr d (100 + ((vc : Int) : Int)) [] (some ⟨g, 0, none⟩) L w') (first | exact HS0.out | assumption | exact HeldW.drewN (by assumption)) (first
                  | (go_at_call 9; refine (waits_held (by assumption) HLD0.out).mono ?_; rintro e w6 ⟨a6, c6, rfl, hr6, hk6⟩)
                  | (go_at_call 8; refine (same_eqn [] _ _ _ _ _ _ _ (by assumption) (fun h => absurd rfl h) HLD0.out (by omega) (by omega)).mono ?_; rintro e w7 ⟨rfl, q7, rfl⟩)
                  | (go_at_call 10; refine (num_held (by assumption)).mono ?_; rintro e w8 ⟨rfl, rfl⟩))
                all_goals
                  rename_i hk6
                  go_wp2_with fail
                  go_ret
                  exact ⟨by simp; rw [wrapu (a := (vc : Int)) (by omega) (by omega), wrapu (a := 100 + (vc : Int)) (by omega) (by omega)], HMF.out.trans hk6.2.2⟩
              · go_wp2_with fail
                go_region_held3 (fun w' => HeldW wr d (100 + ((j : Int) : Int)) [] (some ⟨g, 0, none⟩) L w') (first | exact HS0.out | assumption | exact HeldW.drewN (by assumption)) (first
                  | (go_at_call 9; refine (waits_held (by assumption) HLD0.out).mono ?_; rintro e w6 ⟨a6, c6, rfl, hr6, hk6⟩)
                  | (go_at_call 8; refine (same_eqn [] _ _ _ _ _ _ _ (by assumption) (fun h => absurd rfl h) HLD0.out (by omega) (by omega)).mono ?_; rintro e w7 ⟨rfl, q7, rfl⟩)
                  | (go_at_call 10; refine (num_held (by assumption)).mono ?_; rintro e w8 ⟨rfl, rfl⟩))
                all_goals
                  rename_i hk6
                  go_wp2_with fail
                  go_ret
                  exact ⟨by simp; rw [wrapu (a := (j : Int)) (by omega) (by omega), wrapu (a := 100 + (j : Int)) (by omega) (by omega)], HMF.out.trans hk6.2.2⟩

end Go.Proofs.Ytonpfpldmgochaa
