/-
  The walks of order's Desk: Num, Seen.
-/
import Derived.Test.YtpbamamplmbgjaaGreatDoorDeskB
namespace Go.Proofs.YtpbamamplmbgjaaGreatDoor
set_option linter.unusedSimpArgs false
set_option linter.unusedVariables false
open Go.RowKit

theorem dnum_any (d : Nat) (me num head many : Int) (r : Nat → M) (w : World) (h : DeskRaw w d me num head many r) :
    Calls Tryz.prog 177 #[.pointer (some ⟨d, 0, none⟩)] w fun e w' => e = .returned (.int .u64 num) ∧ w = w' := by
  have h1 := h.c1
  clear h
  go_enter Tryz.func177, Tryz.ntmps177
  go_wp2
  go_ret
  exact ⟨rfl, rfl⟩

/-- Does the desk see m? -/
def seenOk (me : Int) (L : List M) (m : M) : Bool := match L with | [] => false | x :: _ => decide (m.1 = me ∧ x.2.1 = m.2.1)

def SeenPost (w : World) (d : Nat) (me num : Int) (L : List M) (m : M) (e : Ending) (w' : World) : Prop :=
  e = .returned (.bool (seenOk me L m)) ∧ Mod [d] w w' ∧ DeskAt w' d me num (if seenOk me L m then L.tail else L)

theorem seen_same {w w' : World} {d : Nat} {me num : Int} {L : List M} {m : M} (h : DeskAt w d me num L) (hs : seenOk me L m = false) (hm : Mod [] w w') : SeenPost w d me num L m (.returned (.bool false)) w' := by
  refine ⟨by rw [hs], hm.mono (by simp), ?_⟩
  rw [hs]
  exact h.mod hm (by simp)

theorem seen_fin {w W2 : World} {d : Nat} {me num head h2 mi : Int} {x m : M} {L : List M} {r : Nat → M} (hs : seenOk me (x :: L) m = true) (hl : ∀ i m', (x :: L)[i]? = some m' → r ((head.toNat + i) % 8) = m')
    (hr : DeskRaw W2 d me num head ((x :: L).length : Int) r) (hm : Mod [d] w W2) (hmi : ((x :: L).length : Int) = mi) (hh : (head + 1) % 8 = h2) :
    SeenPost w d me num (x :: L) m (.returned (.bool true)) ((W2.drew.setCell ⟨d, 26, none⟩ (.int .i64 h2)).setCell ⟨d, 27, none⟩ (.int .i64 (mi - 1))) := by
  refine ⟨by rw [hs], ((hm.drew.setCell (.inl (by simp)) _).setCell (.inl (by simp)) _), ?_⟩
  rw [hs]
  have h0 := hr.h0
  have h8 := hr.h1
  have hm1 := hr.m1
  have e : (L.length : Int) = mi - 1 := by rw [← hmi]; simp
  refine ⟨h2, r, ?_, fun i m' hi => ?_⟩
  · show DeskRaw _ d me num h2 (L.length : Int) r
    rw [e]
    exact ((hr.mod (Mod.refl [] _).drew (by simp)).setHead h2 (by omega) (by omega)).setMany (mi - 1) (by omega) (by omega)
  · have := hl (i + 1) m' (by simpa using hi)
    rw [← this]
    congr 1
    omega

set_option maxRecDepth 100000 in
set_option maxHeartbeats 4000000 in
theorem seen_any (d : Nat) (me num : Int) (L : List M) (m : M) (w : World) (h : DeskAt w d me num L) :
    Calls Tryz.prog 297 #[.pointer (some ⟨d, 0, none⟩), .agg #[.int .i64 m.1, .int .u64 m.2.1, .string m.2.2]] w (SeenPost w d me num L m) := by
  have H := Lib.hid h
  obtain ⟨head, r, hr, hl⟩ := h
  have hd := hr.lt
  have c0 := hr.c0
  have c27 := hr.c27
  have c26 := hr.c26
  have f26 := (hr.free 26 (by omega)).2
  have f27 := (hr.free 27 (by omega)).2
  rw [Nat.zero_add] at f26 f27
  have h0 := hr.h0
  have h1 := hr.h1
  have hm1 := hr.m1
  obtain ⟨s, n, t⟩ := m
  obtain ⟨many, hmany⟩ : ∃ many, L.length = many := ⟨_, rfl⟩
  rw [hmany] at c27 hm1
  have HR := Lib.hid hr
  have HL := Lib.hid hl
  have HM := Lib.hid hmany
  clear hl hr hmany
  dsimp only
  by_cases hs : s = me
  · have hsq : (s != me) = false := by simpa using hs
    cases L with
    | nil =>
      have hsn : seenOk me [] (s, n, t) = false := rfl
      obtain rfl : many = 0 := HM.out.symm
      have HS := Lib.hid hsn
      clear hsn
      go_enter Tryz.func297, Tryz.ntmps297
      go_wp2_with fail
      go_quiet (fail)
      go_wp2_with fail
      go_ret
      exact seen_same H.out HS.out (((Mod.refl _ _).alloc _).drewN _)
    | cons x L =>
      have hmp : (many : Int) ≠ 0 := by have := HM.out; simp at this; omega
      have hmq : ((many : Int) == 0) = false := by simpa using hmp
      obtain ⟨k, hk⟩ : ∃ k, head.toNat = k := ⟨_, rfl⟩
      have hk8 : k < 8 := by omega
      have hkk : (head.toNat + (0 : Int).toNat) % 8 = k := by simp; omega
      have hrk : r k = x := by
        have := HL.out 0 x rfl
        rw [← this]
        congr 1
        omega
      have s1 : w.cell? ⟨d, 2 + k * 3 + 1, none⟩ = some (.int .u64 x.2.1) := HR.out.ring k hk8 1 _ (by rw [hrk]; rfl)
      have HK := Lib.hid hkk
      have HRK := Lib.hid hrk
      have HKK := Lib.hid hk
      clear hkk hrk hk
      by_cases hn : x.2.1 = n
      · have hsn : seenOk me (x :: L) (s, n, t) = true := by simp [seenOk, hs, hn]
        have hnq : (x.2.1 != n) = false := by simpa using hn
        have HS := Lib.hid hsn
        clear hsn hn hs hmp
        go_enter Tryz.func297, Tryz.ntmps297
        go_wp2_with fail
        go_region_held3 (fun w' => w'.cell? ⟨d, 0, none⟩ = some (.int .i64 me) ∧ w'.cell? ⟨d, 27, none⟩ = some (.int .i64 many) ∧ w'.cell? ⟨d, 2 + k * 3 + 1, none⟩ = some (.int .u64 x.2.1) ∧ w'.cell? ⟨w.heap.size, 0, none⟩ = some (.int .i64 s) ∧ w'.cell? ⟨w.heap.size, 1, none⟩ = some (.int .u64 n)) (first | go_keep) (first | (go_at_call 181; refine (dat_any d me num head _ r 0 _ (HR.out.mod ((Mod.refl [] _).alloc _).drew (by simp)) (by omega) (by omega) k HK.out).mono ?_; rintro e w5 ⟨rfl, rfl⟩))
        have hraw2 := HR.out.mod (((Mod.refl [] w).alloc (.cells #[.int .i64 s, .int .u64 n, .string t] 189)).drew.drew) (by simp)
        have hm2 := (((Mod.refl [d] w).alloc (.cells #[.int .i64 s, .int .u64 n, .string t] 189)).drew.drew)
        rename_i hHeld
        clear hHeld c0 c26 c27 f26 f27 s1
        generalize hW2 : (w.alloc (.cells #[.int .i64 s, .int .u64 n, .string t] 189)).drew.drew = W2 at hraw2 hm2 ⊢
        clear hW2
        have c26 := hraw2.c26
        have c27 : W2.cell? ⟨d, 27, none⟩ = some (.int .i64 many) := by rw [← HM.out]; exact hraw2.c27
        have f26 := (hraw2.free 26 (by omega)).2
        have f27 := (hraw2.free 27 (by omega)).2
        rw [Nat.zero_add] at f26 f27
        obtain ⟨h2, hh2⟩ : ∃ h2, (head + 1) % 8 = h2 := ⟨_, rfl⟩
        have hw1 : wrap64 (head + 1) = head + 1 := wrap_small (by omega) (by omega)
        have ht1 : (head + 1).tmod 8 = h2 := by rw [Int.tmod_eq_emod_of_nonneg (by omega)]; exact hh2
        have hmp : 1 ≤ (many : Int) := by have := HM.out; simp at this; omega
        have hw2 : wrap64 ((many : Int) - 1) = (many : Int) - 1 := wrap_small (by omega) (by omega)
        have fin := seen_fin HS.out HL.out hraw2 hm2 (show ((x :: L).length : Int) = many by rw [HM.out]) hh2
        have FIN := Lib.hid fin
        clear fin hraw2 hm2 hh2
        go_wp2_with fail
        go_region
        go_wp2_with fail
        go_ret
        exact FIN.out
      · have hsn : seenOk me (x :: L) (s, n, t) = false := by simp [seenOk, hs]; omega
        have hnq : (x.2.1 != n) = true := by simpa using hn
        have HS := Lib.hid hsn
        clear hsn hn hs hmp
        go_enter Tryz.func297, Tryz.ntmps297
        go_wp2_with fail
        go_region_held3 (fun w' => w'.cell? ⟨d, 0, none⟩ = some (.int .i64 me) ∧ w'.cell? ⟨d, 27, none⟩ = some (.int .i64 many) ∧ w'.cell? ⟨d, 2 + k * 3 + 1, none⟩ = some (.int .u64 x.2.1) ∧ w'.cell? ⟨w.heap.size, 0, none⟩ = some (.int .i64 s) ∧ w'.cell? ⟨w.heap.size, 1, none⟩ = some (.int .u64 n)) (first | go_keep) (first | (go_at_call 181; refine (dat_any d me num head _ r 0 _ (HR.out.mod ((Mod.refl [] _).alloc _).drew (by simp)) (by omega) (by omega) k HK.out).mono ?_; rintro e w5 ⟨rfl, rfl⟩))
        go_wp2_with fail
        go_ret
        exact seen_same H.out HS.out ((Mod.refl _ _).alloc _).drew.drew
  · have hsq : (s != me) = true := by simpa using hs
    have hsn : seenOk me L (s, n, t) = false := by
      cases L with
      | nil => rfl
      | cons x L => simp [seenOk, hs]
    have HS := Lib.hid hsn
    clear hsn hs
    go_enter Tryz.func297, Tryz.ntmps297
    go_wp2_with fail
    go_quiet (fail)
    go_wp2_with fail
    go_ret
    exact seen_same H.out HS.out (((Mod.refl _ _).alloc _).drewN _)

end Go.Proofs.YtpbamamplmbgjaaGreatDoor
