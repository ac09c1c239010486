/-
  The walks of conventicleref18's Desk: Waits, Seen.
-/
import Derived.Test.YtkafejbfhmolhaaRefDsk
import Derived.Test.YtkafejbfhmolhaaDeskC
namespace Go.Proofs.Ytkafejbfhmolhaa
open Go.RowKit

set_option maxRecDepth 100000 in
set_option maxHeartbeats 4000000 in
theorem rdwaits_any (B : Nat) (G : List Nat) (r : Nat) (me num : Int) (L : List M) (most : Int) (n : Nat) (w : World) (h : RefDeskAt B G w r me num L) (hn : max 0 (min most (L.length : Int)) = n) (hm : most ≤ 9223372036854775807) :
    Calls Try.prog 9 #[.pointer (some ⟨r, 0, none⟩), .int .i64 most] w (WaitsPost w L n) := by
  obtain ⟨a, c, _, _, c2, _, _, hr, _, hsl, _, _, hl8⟩ := h
  have HRD := Lib.hid hsl.rd
  obtain ⟨many, hmany⟩ : ∃ many, L.length = many := ⟨_, rfl⟩
  rw [hmany] at c2 hl8 hn
  have HM := Lib.hid hmany
  have HN := Lib.hid hn
  have hnm : n ≤ many := by omega
  clear hsl hmany hn
  go_enter Try.func9, Try.ntmps9
  go_wp2_with fail
  go_loopw [5, 6] (fun v u wr => WaitsRel w L n v u wr) (fun _ u _ => n - (intOf u).toNat)
  case atStart => exact ⟨0, rfl, Nat.zero_le _, OwnMs.empty (heap_new _ _) (Nat.le_refl _), (Mod.refl _ _).alloc _⟩
  case round =>
    obtain ⟨k, rfl, hk, hO, hM⟩ := hrel
    have HO := Lib.hid hO
    have HMO := Lib.hid hM
    have q2 : ∀ W, Mod [] wr W → W.cell? ⟨r, 2, none⟩ = some (.slice a many c) := fun W h => ((hM.trans h).cell hr (by simp)).trans c2
    have Q2 := Lib.hid q2
    have q20 := q2 wr (Mod.refl _ _)
    clear hO q2
    by_cases hlt : k < n
    · have h1 : (k : Int) < most := by have := HN.out; omega
      have h2 : (k : Int) < (many : Int) := by omega
      obtain ⟨m, hm⟩ : ∃ m, L[k]? = some m := ⟨_, List.getElem?_eq_getElem (by have := HM.out; omega)⟩
      obtain ⟨g, o, rfl, _, hrg⟩ := (HRD.out.mod hM (by simp)) (by intro e; rw [e] at hm; simp at hm)
      have hat := RdMs.at hrg hm
      have s0 : wr.cell? ⟨g, o + k * 3, none⟩ = some (.int .i64 m.1) := hat 0 _ rfl
      have s1 : wr.cell? ⟨g, o + k * 3 + 1, none⟩ = some (.int .u64 m.2.1) := hat 1 _ rfl
      have s2 : wr.cell? ⟨g, o + k * 3 + 2, none⟩ = some (.string m.2.2) := hat 2 _ rfl
      have HMM := Lib.hid hm
      have HMx := Lib.hid hM
      clear hm hrg hat hM
      go_wp2_with (at_builtin; with_reducible refine wpList_append_msg rfl _ _ rfl w.heap.size _ _ rfl (HO.out.mod ((Mod.refl [] _).alloc _) (by simp)) _ _ m rfl ?o1 ?o2 ?o3 ?o4)
      case o1 => exact fun j v hv => by rw [Nat.zero_add]; exact cell_in (heap_new _ _) (by simpa [mcells] using hv)
      case o2 => have := HM.out; simp; omega
      case o3 => have := HMO.out.size; simp; omega
      case o4 =>
        intro v' w' hO' hgr hat
        rw [take_one HMM.out] at hO'
        have HO2 := Lib.hid hO'
        have HM2 := Lib.hid ((HMO.out.alloc _).grown' hgr (fun b hb => (HO.out.own_ge b hb).1))
        clear hO' hgr hat
        go_wp2_with fail
        go_roundw
        case rel => exact ⟨k + 1, by go_num, by omega, HO2.out, HM2.out⟩
        case measure => simp [intOf]; omega
    · obtain rfl : k = n := by omega
      by_cases h1 : (k : Int) < most
      · have h2 : ¬ ((k : Int) < (many : Int)) := by have := HN.out; omega
        go_wp2_with fail
        go_ret
        exact ⟨_, rfl, HO.out, HMO.out⟩
      · go_wp2_with fail
        go_ret
        exact ⟨_, rfl, HO.out, HMO.out⟩

def RSeenPost (B : Nat) (G : List Nat) (w : World) (r : Nat) (me num : Int) (L : List M) (m : M) (e : Ending) (w' : World) : Prop :=
  e = .returned (.bool (seenOk me L m)) ∧ Mod [r] w w' ∧ RefDeskAt B G w' r me num (if seenOk me L m then L.tail else L)

theorem rseen_same {B : Nat} {G : List Nat} {w w' : World} {r : Nat} {me num : Int} {L : List M} {m : M} (h : RefDeskAt B G w r me num L) (hs : seenOk me L m = false) (hm : Mod [] w w') : RSeenPost B G w r me num L m (.returned (.bool false)) w' := by
  refine ⟨by rw [hs], hm.mono (by simp), ?_⟩
  rw [hs]
  exact h.same hm

theorem SlMs.tail {B : Nat} {G : List Nat} {w : World} {g off c : Nat} {x : M} {L : List M} (h : SlMs B G w (some ⟨g, off, none⟩) c (x :: L)) : SlMs B G w (some ⟨g, off + 3, none⟩) (c - 1) L := by
  obtain ⟨h1, h2, h3, h4⟩ := h
  obtain ⟨g2, o2, e, hg, hB, hlt, hr, ht⟩ := h4 _ rfl
  injection e with e1 e2
  subst e1 e2
  simp at h1
  refine ⟨by omega, by omega, fun h => (by cases h), fun ad had => ?_⟩
  injection had with had
  subst had
  refine ⟨g, off + 3, rfl, hg, hB, hlt, fun j v hv => ?_, fun j hj => ?_⟩
  · have := hr (3 + j) v (by
      show (mcells x ++ flat L)[3 + j]? = some v
      rw [List.getElem?_append_right (by simp [mcells])]
      simpa [mcells] using hv)
    rw [← Nat.add_assoc] at this
    exact this
  · have := ht (3 + j) (by omega)
    rw [← Nat.add_assoc] at this
    exact this
theorem SlMs.tail1 {B : Nat} {G : List Nat} {w : World} {g off : Nat} {x : M} {L : List M} (h : SlMs B G w (some ⟨g, off, none⟩) 1 (x :: L)) : L = [] ∧ SlMs B G w (some ⟨g, off, none⟩) 0 [] := by
  obtain ⟨h1, h2, h3, h4⟩ := h
  obtain ⟨g2, o2, e, hg, hB, hlt, hr, ht⟩ := h4 _ rfl
  injection e with e1 e2
  subst e1 e2
  have h1' : L.length + 1 ≤ 1 := h1
  refine ⟨List.eq_nil_of_length_eq_zero (by omega), Nat.le_refl _, by simp, fun h => (by cases h), fun ad had => ?_⟩
  injection had with had
  subst had
  exact ⟨g, off, rfl, hg, hB, hlt, fun j v hv => by simp [flat] at hv, fun j hj => by omega⟩

theorem rseen_fin {B : Nat} {G : List Nat} {w W : World} {r n : Nat} {me num : Int} {x m : M} {L : List M} {a : Option Addr} {c : Nat} {u : Value} (hs : seenOk me (x :: L) m = true) (hM : Mod [] w W) (hr : r < w.heap.size) (hrG : r ∈ G) (n0 : 0 ≤ num) (n1 : num ≤ 18446744073709551615) (h8 : (x :: L).length ≤ 8)
    (c0 : w.cell? ⟨r, 0, none⟩ = some (.int .i64 me)) (c1 : w.cell? ⟨r, 1, none⟩ = some (.int .u64 num)) (c2 : w.cell? ⟨r, 2, none⟩ = some u) (f1 : w.frozen? ⟨r, 1, none⟩ = false) (f2 : w.frozen? ⟨r, 2, none⟩ = false) (hsl : SlMs B G w a c L) (hn : L.length = n) :
    RSeenPost B G w r me num (x :: L) m (.returned (.bool true)) (W.setCell ⟨r, 2, none⟩ (.slice a n c)) := by
  have d0 := (hM.cell (p := ⟨r, 0, none⟩) hr (by simp)).trans c0
  have d1 := (hM.cell (p := ⟨r, 1, none⟩) hr (by simp)).trans c1
  have d2 := (hM.cell (p := ⟨r, 2, none⟩) hr (by simp)).trans c2
  refine ⟨by rw [hs], (hM.mono (by simp)).setCell (.inl (by simp)) _, ?_⟩
  rw [hs]
  refine ⟨a, c, ?_, ?_, ?_, ?_, ?_, ?_, hrG, ?_, n0, n1, by simp at h8; show L.length ≤ 8; omega⟩
  · exact (cell_set_off _ _ _ _ (by simp)).trans d0
  · exact (cell_set_off _ _ _ _ (by simp)).trans d1
  · rw [cell_set_same d2, ← hn]
    rfl
  · exact (World.frozen?_setCell _ _ _ _).trans ((hM.frozen (p := ⟨r, 1, none⟩) hr (by simp)).trans f1)
  · exact (World.frozen?_setCell _ _ _ _).trans ((hM.frozen (p := ⟨r, 2, none⟩) hr (by simp)).trans f2)
  · have := hM.size; simp [World.setCell]; omega
  · exact (hsl.mod hM (by simp)).mod ((Mod.refl [r] W).setCell (.inl (by simp)) _) (by intro s hs; simp at hs; subst hs; exact .inl hrG)

set_option maxRecDepth 100000 in
set_option maxHeartbeats 4000000 in
theorem rseen_any (B : Nat) (G : List Nat) (r : Nat) (me num : Int) (L : List M) (m : M) (w : World) (h : RefDeskAt B G w r me num L) :
    Calls Try.prog 11 #[.pointer (some ⟨r, 0, none⟩), .agg #[.int .i64 m.1, .int .u64 m.2.1, .string m.2.2]] w (RSeenPost B G w r me num L m) := by
  have H := Lib.hid h
  obtain ⟨a, c, c0, c1, c2, f1, f2, hr, hrG, hsl, n0, n1, hl8⟩ := h
  obtain ⟨s, n, t⟩ := m
  obtain ⟨many, hmany⟩ : ∃ many, L.length = many := ⟨_, rfl⟩
  rw [hmany] at c2 hl8
  have HSL := Lib.hid hsl
  have HM := Lib.hid hmany
  have HRG := Lib.hid hrG
  have C0 := Lib.hid c0
  have C1 := Lib.hid c1
  have C2 := Lib.hid c2
  have F1 := Lib.hid f1
  have F2 := Lib.hid f2
  have HRr := Lib.hid hr
  clear hsl hmany hrG
  dsimp only
  by_cases hs : s = me
  · have hsq : (s != me) = false := by simpa using hs
    cases L with
    | nil =>
      have hsn : seenOk me [] (s, n, t) = false := rfl
      obtain rfl : many = 0 := HM.out.symm
      have HS := Lib.hid hsn
      clear hsn hs
      go_enter Try.func11, Try.ntmps11
      go_wp2_with fail
      go_quiet (fail)
      go_wp2_with fail
      go_ret
      exact rseen_same H.out HS.out (((Mod.refl _ _).alloc _).drewN _)
    | cons x L =>
      have hmq : ((many : Int) == 0) = false := by have := HM.out; simp at this; simp; omega
      obtain ⟨g, off, rfl, hlt, hrg⟩ := HSL.out.rd (by simp)
      have s1 : w.cell? ⟨g, off + 1, none⟩ = some (.int .u64 x.2.1) := hrg 1 _ rfl
      have hmp : 0 < many := by have := HM.out; simp at this; omega
      clear hrg
      by_cases hn : x.2.1 = n
      · have hsn : seenOk me (x :: L) (s, n, t) = true := by simp [seenOk, hs, hn]
        have hnq : (x.2.1 != n) = false := by simpa using hn
        have HS := Lib.hid hsn
        clear hsn hn hs
        have hcm : c ≤ 9223372036854775807 := by have := HSL.out.2.1; simpa [maxLen] using this
        have hmc : many ≤ c := by have := HSL.out.1; rw [HM.out] at this; exact this
        by_cases hc1 : c = 1
        · subst hc1
          obtain ⟨hL0, hsl1⟩ := HSL.out.tail1
          subst hL0
          obtain rfl : many = 1 := HM.out.symm
          have HS1 := Lib.hid hsl1
          clear hsl1
          go_enter Try.func11, Try.ntmps11
          go_wp2_with fail
          go_quiet (fail)
          go_wp2_with fail
          go_ret
          exact rseen_fin HS.out (((Mod.refl [] w).alloc _).drewN _) HRr.out HRG.out n0 n1 (by simp) C0.out C1.out C2.out F1.out F2.out HS1.out rfl
        · go_enter Try.func11, Try.ntmps11
          go_wp2_with fail
          go_quiet (fail)
          go_wp2_with fail
          go_ret
          exact rseen_fin HS.out (((Mod.refl [] w).alloc _).drewN _) HRr.out HRG.out n0 n1 (by rw [HM.out]; exact hl8) C0.out C1.out C2.out F1.out F2.out HSL.out.tail (by have := HM.out; simp at this; omega)
      · have hsn : seenOk me (x :: L) (s, n, t) = false := by simp [seenOk, hs]; omega
        have hnq : (x.2.1 != n) = true := by simpa using hn
        have HS := Lib.hid hsn
        clear hsn hn hs
        go_enter Try.func11, Try.ntmps11
        go_wp2_with fail
        go_quiet (fail)
        go_wp2_with fail
        go_ret
        exact rseen_same H.out HS.out (((Mod.refl _ _).alloc _).drewN _)
  · have hsq : (s != me) = true := by simpa using hs
    have hsn : seenOk me L (s, n, t) = false := by
      cases L with
      | nil => rfl
      | cons x L => simp [seenOk, hs]
    have HS := Lib.hid hsn
    clear hsn hs
    go_enter Try.func11, Try.ntmps11
    go_wp2_with fail
    go_quiet (fail)
    go_wp2_with fail
    go_ret
    exact rseen_same H.out HS.out (((Mod.refl _ _).alloc _).drewN _)

end Go.Proofs.Ytkafejbfhmolhaa
