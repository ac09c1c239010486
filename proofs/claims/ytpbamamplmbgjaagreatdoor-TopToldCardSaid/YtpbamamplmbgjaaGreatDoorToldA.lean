/-
  What TopTold calls: rank.May of whatever, roll.Hear of another node, rumor.Cap, rumor.Take of one.
-/
import Derived.Test.YtpbamamplmbgjaaGreatDoorTopE
import Derived.Test.YtpbamamplmbgjaaGreatDoorTopZ
import Derived.Test.YtpbamamplmbgjaaGreatDoorTopDe
namespace Go.Proofs.YtpbamamplmbgjaaGreatDoor
set_option linter.unusedSimpArgs false
set_option linter.unusedVariables false
open Go.RowKit

def mayB (n st : Int) : Bool := decide (0 ≤ n) && decide (n < 64) && decide (0 ≤ st) && decide (st ≤ 3)
theorem mayB_true {n st : Int} (h : mayB n st = true) : (0 ≤ n ∧ n < 64) ∧ 0 ≤ st ∧ st ≤ 3 := by
  unfold mayB at h
  simp at h
  omega
theorem tmay_no (n inc st : Int) (h : mayB n st = false) (w : World) :
    Calls Tryz.prog 32 #[.agg #[.int .i64 n, .int .u64 inc, .int .i64 st]] w fun e w' => e = .returned (.bool false) ∧ Mod [] w w' := by
  have H := Lib.hid h
  clear h
  by_cases h1 : 0 ≤ n
  · by_cases h2 : n < 64
    · by_cases h3 : 0 ≤ st
      · have h4 : ¬ st ≤ 3 := fun h4 => by
          have := H.out
          unfold mayB at this
          simp [h1, h2, h3, h4] at this
        have q1 : decide ((0 : Int) ≤ n) = true := by simpa using h1
        have q2 : decide (n < (64 : Int)) = true := by simpa using h2
        have q3 : decide ((0 : Int) ≤ st) = true := by simpa using h3
        have q4 : decide (st ≤ (3 : Int)) = false := by simpa using h4
        go_enter Tryz.func32, Tryz.ntmps32
        go_wp2_with fail
        go_ret
        exact ⟨by simp [*], (Mod.refl [] w).alloc _⟩
      · have q1 : decide ((0 : Int) ≤ n) = true := by simpa using h1
        have q2 : decide (n < (64 : Int)) = true := by simpa using h2
        have q3 : decide ((0 : Int) ≤ st) = false := by simpa using h3
        go_enter Tryz.func32, Tryz.ntmps32
        go_wp2_with fail
        go_ret
        exact ⟨by simp [*], (Mod.refl [] w).alloc _⟩
    · have q1 : decide ((0 : Int) ≤ n) = true := by simpa using h1
      have q2 : decide (n < (64 : Int)) = false := by simpa using h2
      go_enter Tryz.func32, Tryz.ntmps32
      go_wp2_with fail
      go_ret
      exact ⟨by simp [*], (Mod.refl [] w).alloc _⟩
  · have q1 : decide ((0 : Int) ≤ n) = false := by simpa using h1
    go_enter Tryz.func32, Tryz.ntmps32
    go_wp2_with fail
    go_ret
    exact ⟨by simp [*], (Mod.refl [] w).alloc _⟩
theorem rmay_no (n inc st : Int) (h : mayB n st = false) (w : World) :
    Calls Tryz.prog 7 #[.agg #[.int .i64 n, .int .u64 inc, .int .i64 st]] w fun e w' => e = .returned (.bool false) ∧ Mod [] w w' := by
  have H := Lib.hid h
  clear h
  go_enter Tryz.func7, Tryz.ntmps7
  go_wp2_with fail
  refine (tmay_no n inc st H.out _).mono ?_
  rintro e w1 ⟨rfl, hM⟩
  go_wp2_with fail
  go_ret
  exact ⟨rfl, ((Mod.refl [] w).alloc _).trans hM⟩

set_option maxRecDepth 100000 in
set_option maxHeartbeats 4000000 in
/-- Of a node of which nothing is known: it is put. -/
theorem hear_new (r me k : Nat) (hme : me < 64) (hk : k < 64) (hkm : k ≠ me) (inc st has has' : Int) (hst : 0 ≤ st ∧ st ≤ 3) (f : Nat → Int × Int × Int) (w : World) (h : RollAt w r me f has) (hno : (bits .and .u64 has (2 ^ k) != 0) = false) (hor : bits .or .u64 has (2 ^ k) = has') :
    Calls Tryz.prog 10 #[.pointer (some ⟨r, 0, none⟩), .agg #[.int .i64 k, .int .u64 inc, .int .i64 st]] w fun e w' => e = .returned (.tuple #[.bool true, .int .i64 0]) ∧ RollAt w' r me (rollPut f k (k, inc, st)) has' ∧ Mod [r] w w' := by
  have H := Lib.hid h
  have HNO := Lib.hid hno
  have HOR := Lib.hid hor
  have hrl := h.lt
  have hmm : ((k : Int) == (me : Int)) = false := by rw [beq_eq_false_iff_ne]; omega
  clear h hno hor
  go_enter Tryz.func10, Tryz.ntmps10
  go_wp2_with fail
  refine (rmay_is k inc st (by omega) hst _).mono ?_
  rintro e w1 ⟨rfl, hM⟩
  have hM1 := ((Mod.refl [] w).alloc (.cells #[.int .i64 k, .int .u64 inc, .int .i64 st] 24)).trans hM
  have hrow := row_mod hM (heap_new w (.cells #[.int .i64 k, .int .u64 inc, .int .i64 st] 24)) (by simp)
  have HR1 := Lib.hid (H.out.mod hM1 (by simp))
  have HROW := Lib.hid hrow
  have HM := Lib.hid hM1
  have hb : r ≠ w.heap.size := by omega
  clear hM hM1 hrow
  generalize w.heap.size = b at HROW hb ⊢
  have c0 := cell_in HROW.out (show (#[Value.int .i64 k, .int .u64 inc, .int .i64 st] : Array Value)[0]? = some (.int .i64 k) from rfl)
  have cm := HR1.out.me
  go_wp2_with fail
  go_region
  go_wp2_with fail
  replace HR1 := Lib.hid (HR1.out.mod (Mod.refl [] _).drew (by simp))
  replace HROW := Lib.hid (row_drew HROW.out)
  replace HM := Lib.hid HM.out.drew
  clear c0 cm
  generalize w1.drew = wD at HR1 HROW HM ⊢
  have c0 := cell_in HROW.out (show (#[Value.int .i64 k, .int .u64 inc, .int .i64 st] : Array Value)[0]? = some (.int .i64 k) from rfl)
  have ch := HR1.out.has
  go_quiet ((go_at_call 44; refine Calls.quiet_of_same ((has_is has k false hk HNO.out _).mono (fun _ _ h => ⟨h.1, h.2.symm⟩))))
  rename_i nq
  replace HR1 := Lib.hid (HR1.out.mod ((Mod.refl [] _).drewN nq) (by simp))
  replace HROW := Lib.hid (show (wD.drewN nq).heap[b]? = _ from HROW.out)
  replace HM := Lib.hid (HM.out.drewN nq)
  clear c0 ch
  generalize wD.drewN nq = wE at HR1 HROW HM ⊢
  have c0 := cell_in HROW.out (show (#[Value.int .i64 k, .int .u64 inc, .int .i64 st] : Array Value)[0]? = some (.int .i64 k) from rfl)
  have c1 := cell_in HROW.out (show (#[Value.int .i64 k, .int .u64 inc, .int .i64 st] : Array Value)[1]? = some (.int .u64 inc) from rfl)
  have c2 := cell_in HROW.out (show (#[Value.int .i64 k, .int .u64 inc, .int .i64 st] : Array Value)[2]? = some (.int .i64 st) from rfl)
  go_wp2_with fail
  refine (put_any r k me inc st has has' f _ HR1.out hk HOR.out).mono ?_
  rintro e w6 ⟨rfl, hR6, hM6⟩
  have HF := Lib.hid (And.intro hR6 hM6)
  clear hR6 hM6 c0 c1 c2
  go_wp2
  go_ret2
  exact ⟨rfl, HF.out.1, (HM.out.wide (by simp)).trans HF.out.2⟩

set_option maxRecDepth 100000 in
set_option maxHeartbeats 4000000 in
/-- Of a node of which as much is known: nothing happens. -/
theorem hear_old (r me k : Nat) (hme : me < 64) (hk : k < 64) (hkm : k ≠ me) (inc st has : Int) (hst : 0 ≤ st ∧ st ≤ 3) (f : Nat → Int × Int × Int) (w : World) (h : RollAt w r me f has) (hhas : (bits .and .u64 has (2 ^ k) != 0) = true) (hold : decide (0 < or2 (cmp3 inc (f k).2.1) (cmp3 st (f k).2.2)) = false) :
    Calls Tryz.prog 10 #[.pointer (some ⟨r, 0, none⟩), .agg #[.int .i64 k, .int .u64 inc, .int .i64 st]] w fun e w' => e = .returned (.tuple #[.bool false, .int .i64 70]) ∧ Mod [] w w' := by
  have H := Lib.hid h
  have HHAS := Lib.hid hhas
  have HOLD := Lib.hid hold
  have hrl := h.lt
  have hmm : ((k : Int) == (me : Int)) = false := by rw [beq_eq_false_iff_ne]; omega
  clear h hhas hold
  go_enter Tryz.func10, Tryz.ntmps10
  go_wp2_with fail
  refine (rmay_is k inc st (by omega) hst _).mono ?_
  rintro e w1 ⟨rfl, hM⟩
  have hM1 := ((Mod.refl [] w).alloc (.cells #[.int .i64 k, .int .u64 inc, .int .i64 st] 24)).trans hM
  have hrow := row_mod hM (heap_new w (.cells #[.int .i64 k, .int .u64 inc, .int .i64 st] 24)) (by simp)
  have HR1 := Lib.hid (H.out.mod hM1 (by simp))
  have HROW := Lib.hid hrow
  have HM := Lib.hid hM1
  have hb : r ≠ w.heap.size := by omega
  clear hM hM1 hrow
  generalize w.heap.size = b at HROW hb ⊢
  have c0 := cell_in HROW.out (show (#[Value.int .i64 k, .int .u64 inc, .int .i64 st] : Array Value)[0]? = some (.int .i64 k) from rfl)
  have cm := HR1.out.me
  go_wp2_with fail
  go_region
  go_wp2_with fail
  replace HR1 := Lib.hid (HR1.out.mod (Mod.refl [] _).drew (by simp))
  replace HROW := Lib.hid (row_drew HROW.out)
  replace HM := Lib.hid HM.out.drew
  clear c0 cm
  generalize w1.drew = wD at HR1 HROW HM ⊢
  have c0 := cell_in HROW.out (show (#[Value.int .i64 k, .int .u64 inc, .int .i64 st] : Array Value)[0]? = some (.int .i64 k) from rfl)
  have c1 := cell_in HROW.out (show (#[Value.int .i64 k, .int .u64 inc, .int .i64 st] : Array Value)[1]? = some (.int .u64 inc) from rfl)
  have c2 := cell_in HROW.out (show (#[Value.int .i64 k, .int .u64 inc, .int .i64 st] : Array Value)[2]? = some (.int .i64 st) from rfl)
  have ch := HR1.out.has
  have k0 := HR1.out.node k hk
  have k1 := HR1.out.inc k hk
  have k2 := HR1.out.state k hk
  have hk0i : 0 ≤ (k : Int) := by omega
  have hk1i : (k : Int) < 64 := by omega
  obtain ⟨u, hu⟩ : ∃ u, f k = u := ⟨_, rfl⟩
  rw [hu] at k0 k1 k2
  have HNW := Lib.hid (fun w' => rnewer_is k inc st u.1 u.2.1 u.2.2 false (by rw [← hu]; exact HOLD.out) w')
  clear hu
  go_region_held3 (fun w' => w'.cell? ⟨r, 193, none⟩ = some (.int .u64 has) ∧ w'.cell? ⟨b, 0, none⟩ = some (.int .i64 k) ∧ w'.cell? ⟨b, 1, none⟩ = some (.int .u64 inc) ∧ w'.cell? ⟨b, 2, none⟩ = some (.int .i64 st) ∧ w'.cell? ⟨r, 1 + k * 3, none⟩ = some (.int .i64 u.1) ∧ w'.cell? ⟨r, 1 + k * 3 + 1, none⟩ = some (.int .u64 u.2.1) ∧ w'.cell? ⟨r, 1 + k * 3 + 2, none⟩ = some (.int .i64 u.2.2)) (first | exact ⟨ch, c0, c1, c2, k0, k1, k2⟩ | exact ⟨HM6.out.at ch (by simp), HM6.out.at c0 (by simp), HM6.out.at c1 (by simp), HM6.out.at c2 (by simp), HM6.out.at k0 (by simp), HM6.out.at k1 (by simp), HM6.out.at k2 (by simp)⟩) ((first | (go_at_call 44; refine (has_is has k true hk HHAS.out _).mono ?_; rintro e w5 ⟨rfl, rfl⟩) | (go_at_call 45; refine (HNW.out _).mono ?_; rintro e w6 ⟨rfl, hM6⟩; have HM6 := Lib.hid ((Mod.refl [] wD).drew.trans hM6); clear hM6)))
  go_wp2
  go_ret2
  exact ⟨rfl, HM.out.trans HM6.out⟩

set_option maxRecDepth 100000 in
set_option maxHeartbeats 2000000 in
theorem len64_small (n b : Nat) (h : (n = 2 ∧ b = 2) ∨ (n = 3 ∧ b = 2) ∨ (n = 4 ∧ b = 3) ∨ (n = 5 ∧ b = 3) ∨ (n = 6 ∧ b = 3) ∨ (n = 7 ∧ b = 3)) (w : World) : Calls Tryz.prog 161 #[.int .u64 n] w fun e w' => e = .returned (.int .i64 b) ∧ w = w' := by
  rcases h with ⟨rfl, rfl⟩ | ⟨rfl, rfl⟩ | ⟨rfl, rfl⟩ | ⟨rfl, rfl⟩ | ⟨rfl, rfl⟩ | ⟨rfl, rfl⟩
  all_goals
    go_enter Tryz.func161, Tryz.ntmps161
    go_wp2_with fail
    go_ret
    exact ⟨ret_int (by kernel_rfl), rfl⟩
set_option maxRecDepth 100000 in
set_option maxHeartbeats 2000000 in
theorem rbits_small (n b : Nat) (h : (n = 2 ∧ b = 2) ∨ (n = 3 ∧ b = 2) ∨ (n = 4 ∧ b = 3) ∨ (n = 5 ∧ b = 3) ∨ (n = 6 ∧ b = 3) ∨ (n = 7 ∧ b = 3)) (w : World) : Calls Tryz.prog 53 #[.int .i64 n] w fun e w' => e = .returned (.int .i64 b) ∧ w = w' := by
  have HL := Lib.hid (fun w => len64_small n b h w)
  have hn : 0 ≤ (n : Int) ∧ (n : Int) ≤ 7 := by omega
  have hm : max (n : Int) 0 = n := by omega
  have HLN := Lib.hid (show ∀ w, Calls Tryz.prog 110 #[.int .u64 n] w fun e w' => e = .returned (.int .i64 b) ∧ w = w' from fun w => by
    clear hm
    obtain ⟨h0, h1⟩ := hn
    go_enter Tryz.func110, Tryz.ntmps110
    go_wp2_with fail
    refine (HL.out _).mono ?_
    rintro e w1 ⟨rfl, rfl⟩
    go_wp2_with fail
    go_ret
    exact ⟨rfl, rfl⟩)
  obtain ⟨h0, h1⟩ := hn
  clear h
  go_enter Tryz.func53, Tryz.ntmps53
  go_wp2_with fail
  refine (HLN.out _).mono ?_
  rintro e w1 ⟨rfl, rfl⟩
  go_wp2_with fail
  go_ret
  exact ⟨rfl, rfl⟩
theorem cap_small (n : Nat) (h : 2 ≤ n ∧ n ≤ 7) : ∃ c : Nat, 1 < c ∧ c < 10 ∧ ∀ w, Calls Tryz.prog 48 #[.int .i64 n] w fun e w' => e = .returned (.int .i64 c) ∧ w = w' := by
  obtain ⟨b, hb⟩ : ∃ b : Nat, (n = 2 ∧ b = 2) ∨ (n = 3 ∧ b = 2) ∨ (n = 4 ∧ b = 3) ∨ (n = 5 ∧ b = 3) ∨ (n = 6 ∧ b = 3) ∨ (n = 7 ∧ b = 3) := by
    by_cases h4 : n ≤ 3
    · exact ⟨2, by omega⟩
    · exact ⟨3, by omega⟩
  refine ⟨3 * b, by omega, by omega, fun w => ?_⟩
  have HB := Lib.hid (fun w => rbits_small n b hb w)
  have hw : wrap64 (3 * (b : Int)) = 3 * b := wrap_small (by omega) (by omega)
  have hm : max 1 (3 * (b : Int)) = 3 * b := by omega
  clear h hb
  go_enter Tryz.func48, Tryz.ntmps48
  go_wp2_with fail
  refine (HB.out _).mono ?_
  rintro e w1 ⟨rfl, rfl⟩
  go_wp2_with fail
  go_ret
  exact ⟨by simp [*], rfl⟩

theorem infoUpd : ∃ i, Tryz.prog.info? 24 = some i ∧ i.zero = some (.agg #[.int .i64 0, .int .u64 0, .int .i64 0]) ∧ i.size = 3 ∧ i.bytes ≤ 64 := by
  have h : (Tryz.prog.info? 24).map (fun i => (i.zero, i.size, decide (i.bytes ≤ 64))) = some (some (.agg #[.int .i64 0, .int .u64 0, .int .i64 0]), 3, true) := by kernel_rfl
  cases hi : Tryz.prog.info? 24 with
  | none => rw [hi] at h; cases h
  | some i =>
    rw [hi] at h
    simp at h
    exact ⟨i, rfl, h.1, h.2.1, h.2.2⟩
def UpdAt (w : World) (g : Nat) (u : Int × Int × Int) : Prop := w.cell? ⟨g, 0, none⟩ = some (.int .i64 u.1) ∧ w.cell? ⟨g, 1, none⟩ = some (.int .u64 u.2.1) ∧ w.cell? ⟨g, 2, none⟩ = some (.int .i64 u.2.2)
def TellPost (w : World) (pl b : Nat) (u : Int × Int × Int) (e : Ending) (w' : World) : Prop :=
  ∃ g cap, e = .returned (.tuple #[]) ∧ w'.cell? ⟨pl, 0, none⟩ = some (.slice (some ⟨g, 0, none⟩) 1 cap) ∧ UpdAt w' g u ∧ w.heap.size ≤ g ∧ Mod [pl, b] w w' ∧ w'.frozen? ⟨pl, 0, none⟩ = false

set_option maxRecDepth 100000 in
set_option maxHeartbeats 4000000 in
theorem tell_one (q o b pl pn pq n : Nat) (u : Int × Int × Int) (hn : 2 ≤ n ∧ n ≤ 7) (w : World) (hpl : w.cell? ⟨pl, 0, none⟩ = some (.slice none 0 0)) (fpl : w.frozen? ⟨pl, 0, none⟩ = false) (hpn : w.cell? ⟨pn, 0, none⟩ = some (.int .i64 n)) (hpq : w.cell? ⟨pq, 0, none⟩ = some (.pointer (some ⟨q, o, none⟩)))
    (hq : w.cell? ⟨q, o, none⟩ = some (.map (some b))) (hb : OneMap w b u 0) (hne : pl ≠ pn ∧ pl ≠ pq ∧ pl ≠ q ∧ pl ≠ b) :
    Calls Tryz.prog 47 #[.agg #[.int .i64 u.1, .int .u64 u.2.1, .int .i64 u.2.2, .int .i64 0], .pointer (some ⟨pl, 0, none⟩), .pointer (some ⟨pn, 0, none⟩), .pointer (some ⟨pq, 0, none⟩)] w (TellPost w pl b u) := by
  obtain ⟨c, hc1, _, hcap⟩ := cap_small n hn
  have HCAP := Lib.hid hcap
  obtain ⟨ie, hie, hiz, his, hib⟩ := infoUpd
  have HNE := Lib.hid hne
  have HQ := Lib.hid (And.intro hpn (And.intro hpq (And.intro hq hb)))
  have hll := cell_lt' hpl
  have hrow := heap_new w (.cells #[.int .i64 u.1, .int .u64 u.2.1, .int .i64 u.2.2, .int .i64 0] 127)
  have hm0 := (Mod.refl [] w).alloc (.cells #[.int .i64 u.1, .int .u64 u.2.1, .int .i64 u.2.2, .int .i64 0] 127)
  have HPL := Lib.hid (And.intro (hm0.at hpl (by simp)) ((hm0.frozen (p := ⟨pl, 0, none⟩) hll (by simp)).trans fpl))
  have HROW := Lib.hid hrow
  have HM0 := Lib.hid hm0
  have hbl : b < w.heap.size := (Array.getElem?_eq_some_iff.1 (show w.heap[b]? = _ from hb)).1
  have hql := cell_lt' hq
  have hnl := cell_lt' hpn
  have hpql := cell_lt' hpq
  have HLT := Lib.hid (show pl < w.heap.size ∧ b < w.heap.size ∧ q < w.heap.size ∧ pn < w.heap.size ∧ pq < w.heap.size from ⟨hll, hbl, hql, hnl, hpql⟩)
  clear hcap hib hne hpn hpq hq hb hll hrow hm0 hpl fpl hbl hql hnl hpql hn
  go_enter Tryz.func47, Tryz.ntmps47
  go_upto_region 1 with fail
  generalize hB : w.heap.size = bi at HROW HLT ⊢
  generalize w.alloc (.cells #[.int .i64 u.1, .int .u64 u.2.1, .int .i64 u.2.2, .int .i64 0] 127) = W0 at HROW HM0 HPL ⊢
  have hs0 : bi < W0.heap.size := (Array.getElem?_eq_some_iff.1 HROW.out).1
  have x0 := cell_in HROW.out (show (#[Value.int .i64 u.1, .int .u64 u.2.1, .int .i64 u.2.2, .int .i64 0] : Array Value)[0]? = some (.int .i64 u.1) from rfl)
  have x1 := cell_in HROW.out (show (#[Value.int .i64 u.1, .int .u64 u.2.1, .int .i64 u.2.2, .int .i64 0] : Array Value)[1]? = some (.int .u64 u.2.1) from rfl)
  have x2 := cell_in HROW.out (show (#[Value.int .i64 u.1, .int .u64 u.2.1, .int .i64 u.2.2, .int .i64 0] : Array Value)[2]? = some (.int .i64 u.2.2) from rfl)
  have p0 := HPL.out.1
  have HEV := Lib.hid (World.news_of_block (heap_new W0 (.cells #[.int .i64 u.1, .int .u64 u.2.1, .int .i64 u.2.2] 24)))
  have hone : ∀ v ∈ ([.int .i64 u.1, .int .u64 u.2.1, .int .i64 u.2.2] : List Value), v.oneCell' = true := by
    intro v hv
    simp at hv
    rcases hv with rfl | rfl | rfl <;> rfl
  have HONE := Lib.hid hone
  obtain ⟨i2, hi2, hz2, hs2, hb2⟩ := infoUpd
  have hby : (0 + 1) * ie.bytes ≤ 140737488355328 := by
    rw [hie] at hi2
    cases hi2
    omega
  have hmx : 0 + 1 ≤ maxLen := by unfold maxLen; omega
  have hbs : bi ≤ (W0.alloc (.cells #[.int .i64 u.1, .int .u64 u.2.1, .int .i64 u.2.2] 24)).heap.size := by simp; omega
  have hnil : (W0.alloc (.cells #[.int .i64 u.1, .int .u64 u.2.1, .int .i64 u.2.2] 24)).ownsRow bi 24 3 (.slice none 0 0) 0 [] := ⟨rfl, .inl ⟨rfl, rfl⟩⟩
  have HAR := Lib.hid (And.intro hby (And.intro hmx (And.intro hbs hnil)))
  have HS0 := Lib.hid hs0
  clear hone hby hmx hbs hnil hi2 hz2 hs2 hb2 i2 hs0
  have pfz := HPL.out.2
  have pll : pl < W0.heap.size := cell_lt' p0
  go_upto_region 2 with (at_builtin; with_reducible refine wpList_append_lies _ rfl (.tmp 5) (.tmp 8) 39 rfl bi 24 ie _ 3 ie.bytes Tryz.underlying39 hie hiz his rfl rfl (by decide) (.slice none 0 0) 0 [] rfl HAR.out.2.2.2 ⟨W0.heap.size, 0, none⟩ 1 1 [.int .i64 u.1, .int .u64 u.2.1, .int .i64 u.2.2] rfl rfl HEV.out HONE.out (by decide) HAR.out.2.1 HAR.out.1 HAR.out.2.2.1 _ rfl ?_; intro g cap w2 hown hgrow hat hlt2; have hm2 := Lib.hid (show Mod [] W0 w2 from Mod.grown_none ((Mod.refl [] W0).alloc _) hgrow); have HOWN := Lib.hid hown; have HAT := Lib.hid hat; have p2 := hm2.out.at p0 (by simp); have pf2 := (hm2.out.frozen (p := ⟨pl, 0, none⟩) pll (by simp)).trans pfz; clear hown hgrow hat hlt2)
  have hgc := ownsRow_cells HOWN.out
  have hg := ownsRow_ge HOWN.out g rfl
  have hgW : W0.heap.size ≤ g := by
    rcases HAT.out with h | h
    · cases h
    · simp at h
      omega
  have hneq := HNE.out
  have hlt := HLT.out
  have hs1 : Mod [pl] w2 (w2.setCell ⟨pl, 0, none⟩ (.slice (some ⟨g, 0, none⟩) (0 + 1) cap)) := (Mod.refl _ _).setCell (.inl (by simp)) _
  have HPL2 := Lib.hid (show (w2.setCell ⟨pl, 0, none⟩ (.slice (some ⟨g, 0, none⟩) (0 + 1) cap)).cell? ⟨pl, 0, none⟩ = some (.slice (some ⟨g, 0, none⟩) 1 cap) from cell_set_same p2)
  have HPF := Lib.hid (show (w2.setCell ⟨pl, 0, none⟩ (.slice (some ⟨g, 0, none⟩) (0 + 1) cap)).frozen? ⟨pl, 0, none⟩ = false from (frozen_set _ _ _ _).trans pf2)
  have HG := Lib.hid (show UpdAt (w2.setCell ⟨pl, 0, none⟩ (.slice (some ⟨g, 0, none⟩) (0 + 1) cap)) g u ∧ W0.heap.size ≤ g from ⟨⟨hs1.at (hgc 0 _ rfl) (by simp; omega), hs1.at (hgc 1 _ rfl) (by simp; omega), hs1.at (hgc 2 _ rfl) (by simp; omega)⟩, hgW⟩)
  have HM2 := Lib.hid ((HM0.out.trans hm2.out).wide (T := [pl]) (by simp) |>.trans hs1)
  have HR2 := Lib.hid (row_mod hs1 (row_mod hm2.out HROW.out (by simp)) (show bi ∉ [pl] by simp; omega))
  clear x0 x1 x2 p0 pfz pll p2 pf2 hgc hg hgW hs1 hneq hlt hm2 HOWN HAT HPL HROW HEV HONE HAR HM0
  generalize w2.setCell ⟨pl, 0, none⟩ (.slice (some ⟨g, 0, none⟩) (0 + 1) cap) = W2 at HPL2 HPF HG HM2 HR2 ⊢
  have x3 := cell_in HR2.out (show (#[Value.int .i64 u.1, .int .u64 u.2.1, .int .i64 u.2.2, .int .i64 0] : Array Value)[3]? = some (.int .i64 0) from rfl)
  have f3 := free_in (j := 3) HR2.out
  go_upto_region 3 with fail
  have hs3 : Mod [bi] W2 (W2.setCell ⟨bi, 3, none⟩ (.int .i64 1)) := (Mod.refl _ _).setCell (.inl (by simp)) _
  have hneq := HNE.out
  have hlt := HLT.out
  have hgW := HG.out.2
  have hs0 := HS0.out
  have y0 : (W2.setCell ⟨bi, 3, none⟩ (.int .i64 1)).cell? ⟨bi, 0, none⟩ = some (.int .i64 u.1) := (cell_set_off _ _ _ _ (by simp)).trans (cell_in HR2.out (show (#[Value.int .i64 u.1, .int .u64 u.2.1, .int .i64 u.2.2, .int .i64 0] : Array Value)[0]? = some (.int .i64 u.1) from rfl))
  have y1 : (W2.setCell ⟨bi, 3, none⟩ (.int .i64 1)).cell? ⟨bi, 1, none⟩ = some (.int .u64 u.2.1) := (cell_set_off _ _ _ _ (by simp)).trans (cell_in HR2.out (show (#[Value.int .i64 u.1, .int .u64 u.2.1, .int .i64 u.2.2, .int .i64 0] : Array Value)[1]? = some (.int .u64 u.2.1) from rfl))
  have y2 : (W2.setCell ⟨bi, 3, none⟩ (.int .i64 1)).cell? ⟨bi, 2, none⟩ = some (.int .i64 u.2.2) := (cell_set_off _ _ _ _ (by simp)).trans (cell_in HR2.out (show (#[Value.int .i64 u.1, .int .u64 u.2.1, .int .i64 u.2.2, .int .i64 0] : Array Value)[2]? = some (.int .i64 u.2.2) from rfl))
  have y3 : (W2.setCell ⟨bi, 3, none⟩ (.int .i64 1)).cell? ⟨bi, 3, none⟩ = some (.int .i64 1) := cell_set_same x3
  have hb0 : bi = w.heap.size := hB.symm
  replace HPL2 := Lib.hid (hs3.at HPL2.out (by simp; omega))
  replace HPF := Lib.hid (show (W2.setCell ⟨bi, 3, none⟩ (.int .i64 1)).frozen? ⟨pl, 0, none⟩ = false from (frozen_set _ _ _ _).trans HPF.out)
  replace HG := Lib.hid (show UpdAt (W2.setCell ⟨bi, 3, none⟩ (.int .i64 1)) g u ∧ W0.heap.size ≤ g from ⟨⟨hs3.at HG.out.1.1 (by simp; omega), hs3.at HG.out.1.2.1 (by simp; omega), hs3.at HG.out.1.2.2 (by simp; omega)⟩, hgW⟩)
  replace HM2 := Lib.hid (HM2.out.step hs3 (fun x hx => .inr (by simp at hx; omega)))
  have HY := Lib.hid (And.intro y0 (And.intro y1 (And.intro y2 y3)))
  clear hs3 hgW hs0 y0 y1 y2 y3 x3 f3 hb0 HR2
  generalize W2.setCell ⟨bi, 3, none⟩ (.int .i64 1) = W3 at HPL2 HPF HG HM2 HY ⊢
  have y3 := HY.out.2.2.2
  have n0 := HM2.out.at HQ.out.1 (by simp; omega)
  have hc1' : (1 : Int) < c := by omega
  go_region_held3 (fun w' => w'.cell? ⟨bi, 3, none⟩ = some (.int .i64 1) ∧ w'.cell? ⟨pn, 0, none⟩ = some (.int .i64 n)) (exact ⟨y3, n0⟩) ((go_at_call 48; refine (HCAP.out _).mono ?_; rintro e w5 ⟨rfl, rfl⟩))
  clear y3 n0
  replace HPL2 := Lib.hid ((Mod.refl [] W3).drew.at HPL2.out (by simp))
  replace HPF := Lib.hid (show W3.drew.frozen? ⟨pl, 0, none⟩ = false from HPF.out)
  replace HG := Lib.hid (show UpdAt W3.drew g u ∧ W0.heap.size ≤ g from HG.out)
  replace HM2 := Lib.hid HM2.out.drew
  have q1 := HM2.out.at HQ.out.2.1 (by simp; omega)
  have q2 := HM2.out.at HQ.out.2.2.1 (by simp; omega)
  have hm := row_mod HM2.out HQ.out.2.2.2 (show b ∉ [pl] by simp; omega)
  obtain ⟨y0, y1, y2, y3⟩ := HY.out
  have z0 := (Mod.refl [] W3).drew.at y0 (by simp)
  have z1 := (Mod.refl [] W3).drew.at y1 (by simp)
  have z2 := (Mod.refl [] W3).drew.at y2 (by simp)
  have z3 := (Mod.refl [] W3).drew.at y3 (by simp)
  clear y0 y1 y2 y3 HY
  generalize W3.drew = W4 at HPL2 HPF HG HM2 q1 q2 hm z0 z1 z2 z3 ⊢
  have hput := mrun_update_one (P := Tryz.prog) (w := W4.drew) (t := 32) (v := .agg #[.int .i64 u.1, .int .u64 u.2.1, .int .i64 u.2.2, .int .i64 1]) Tryz.underlying32 Tryz.underlying3 (show W4.drew.heap[b]? = some (.map #[{ key := .int .i64 u.1, val := itemV u 0, born := 0 }] 1) from hm)
  have hmp : ∀ o, Mod [b] W4 (W4.drew.putObj b o) := fun o => ⟨rfl, rfl, rfl, by simp, fun k _ hk => World.putObj_heap_other (by simpa using hk)⟩
  have HMP := Lib.hid hmp
  clear hmp hm
  go_wp2_with fail
  go_region
  go_wp2_with fail
  refine bodyPost_end (results_none rfl _ _ _) rfl ?_
  have hmf := HMP.out (.map #[{ key := .int .i64 u.1, val := .agg #[.int .i64 u.1, .int .u64 u.2.1, .int .i64 u.2.2, .int .i64 1], born := 0 }] 1)
  have hgW := HG.out.2
  have hs0 := HS0.out
  refine ⟨g, cap, rfl, hmf.at HPL2.out (by simp; omega), ⟨hmf.at HG.out.1.1 (by simp; omega), hmf.at HG.out.1.2.1 (by simp; omega), hmf.at HG.out.1.2.2 (by simp; omega)⟩, by omega, (HM2.out.wide (by simp)).trans (hmf.wide (by simp)), (hmf.frozen (p := ⟨pl, 0, none⟩) (cell_lt' HPL2.out) (by simp; omega)).trans HPF.out⟩

def TakePost (w : World) (b : Nat) (u : Int × Int × Int) (e : Ending) (w' : World) : Prop := ∃ g cap, e = .returned (.slice (some ⟨g, 0, none⟩) 1 cap) ∧ UpdAt w' g u ∧ w.heap.size ≤ g ∧ Mod [b] w w'

set_option maxRecDepth 100000 in
set_option maxHeartbeats 4000000 in
theorem qtake_one (q o b n : Nat) (u : Int × Int × Int) (hn : 2 ≤ n ∧ n ≤ 7) (w : World) (hq : w.cell? ⟨q, o, none⟩ = some (.map (some b))) (hb : OneMap w b u 0) :
    Calls Tryz.prog 12 #[.pointer (some ⟨q, o, none⟩), .int .i64 8, .int .i64 n] w (TakePost w b u) := by
  have hmf : ∀ fn first cap w, (Instr.makeFunc fn first cap).run Tryz.prog w = .ok (.func fn first cap) w := fun _ _ _ _ => rfl
  have HN := Lib.hid hn
  have hbl : b < w.heap.size := (Array.getElem?_eq_some_iff.1 (show w.heap[b]? = _ from hb)).1
  have hql := cell_lt' hq
  have hm := (((Mod.refl [] w).alloc (.cells #[.pointer (some ⟨q, o, none⟩)] 31)).alloc (.cells #[.int .i64 n] 3)).alloc (.cells #[.slice none 0 0] 39)
  have r0 := row_alloc (o := .cells #[.slice none 0 0] 39) (row_alloc (o := .cells #[.int .i64 n] 3) (heap_new w (.cells #[.pointer (some ⟨q, o, none⟩)] 31)))
  have r1 := row_alloc (o := .cells #[.slice none 0 0] 39) (heap_at (w.alloc (.cells #[.pointer (some ⟨q, o, none⟩)] 31)) (.cells #[.int .i64 n] 3) (w.heap.size + 1) (by simp))
  have r2 := heap_at ((w.alloc (.cells #[.pointer (some ⟨q, o, none⟩)] 31)).alloc (.cells #[.int .i64 n] 3)) (.cells #[.slice none 0 0] 39) (w.heap.size + 1 + 1) (by simp)
  have HM := Lib.hid hm
  have HR := Lib.hid (And.intro r0 (And.intro r1 r2))
  have HQ := Lib.hid (And.intro hq hb)
  have HLT := Lib.hid (And.intro hbl (show q < w.heap.size from hql))
  clear hn hq hb hm r0 r1 r2 hbl hql
  go_enter Tryz.func12, Tryz.ntmps12
  go_upto_region 2 with fail
  generalize ((w.alloc (.cells #[.pointer (some ⟨q, o, none⟩)] 31)).alloc (.cells #[.int .i64 n] 3)).alloc (.cells #[.slice none 0 0] 39) = W0 at HM HR ⊢
  have x0 := cell_in HR.out.1 (show (#[Value.pointer (some ⟨q, o, none⟩)] : Array Value)[0]? = some (.pointer (some ⟨q, o, none⟩)) from rfl)
  have hq0 := HM.out.at HQ.out.1 (by simp)
  have hb0 : OneMap W0 b u 0 := row_mod HM.out (show w.heap[b]? = _ from HQ.out.2) (by simp)
  go_wp2_with fail
  refine (items_one q o b u 0 _ hq0 hb0).mono ?_
  rintro e w1 ⟨⟨a, rfl, hal, ha0, cs, hcs, c0, c1, c2, c3⟩, hM1⟩
  have d0 := cell_in hcs c0
  have d1 := cell_in hcs c1
  have d2 := cell_in hcs c2
  have d3 := cell_in hcs c3
  have hm1 : min (8 : Int) 1 = 1 := by decide
  have HM1 := Lib.hid (HM.out.trans hM1)
  have HW := Lib.hid hM1
  have HA0 := Lib.hid (show w.heap.size + 3 ≤ a from by have h1 := HM.out.size; have h2 := (Array.getElem?_eq_some_iff.1 HR.out.2.2).1; omega)
  clear x0 hq0 hb0 hcs c0 c1 c2 c3 hM1 ha0 hal
  go_wp2_with fail
  refine wp_loop_rounds 2 ?_
  rw [rounds_succ]
  go_wp2_with fail
  have hal1 : a < w1.heap.size := cell_lt' d0
  have ha0 : w.heap.size + 3 ≤ a := HA0.out
  have hx := HR.out
  have e0 := HW.out.at (cell_in hx.1 (show (#[Value.pointer (some ⟨q, o, none⟩)] : Array Value)[0]? = some (.pointer (some ⟨q, o, none⟩)) from rfl)) (by simp)
  have e1 := HW.out.at (cell_in hx.2.1 (show (#[Value.int .i64 n] : Array Value)[0]? = some (.int .i64 n) from rfl)) (by simp)
  have e2 := HW.out.at (cell_in hx.2.2 (show (#[Value.slice none 0 0] : Array Value)[0]? = some (.slice none 0 0) from rfl)) (by simp)
  have f2 := (HW.out.frozen (p := ⟨w.heap.size + 1 + 1, 0, none⟩) (Array.getElem?_eq_some_iff.1 hx.2.2).1 (by simp)).trans (free_in (j := 0) hx.2.2)
  have q2 := HM1.out.at HQ.out.1 (by simp)
  have b2 : OneMap w1 b u 0 := row_mod HM1.out (show w.heap[b]? = _ from HQ.out.2) (by simp)
  have hma := (Mod.refl [] w1).alloc (.cells #[.int .i64 u.1, .int .u64 u.2.1, .int .i64 u.2.2, .int .i64 0] 127)
  have hlt := HLT.out
  refine (tell_one q o b (w.heap.size + 1 + 1) (w.heap.size + 1) w.heap.size n u HN.out _ (hma.at e2 (by simp)) ((hma.frozen (p := ⟨w.heap.size + 1 + 1, 0, none⟩) (cell_lt' e2) (by simp)).trans f2) (hma.at e1 (by simp)) (hma.at e0 (by simp)) (hma.at q2 (by simp)) (row_mod hma (show w1.heap[b]? = _ from b2) (by simp)) (by omega)).mono ?_
  rintro _ w2 ⟨g, cap, rfl, hpl, hg, hgl, hM2, hf2⟩
  have hlt2 := HLT.out
  have h1 := HM1.out.size
  have hplb : w.heap.size + 1 + 1 ≠ b := by omega
  have HF := Lib.hid (And.intro (show UpdAt w2 g u ∧ w1.heap.size < g from ⟨hg, by simp at hgl; omega⟩) ((HM1.out.wide (T := [b]) (by simp)).step ((hma.wide (T := [w.heap.size + 1 + 1, b]) (by simp)).trans hM2) (fun x hx => by simp at hx; rcases hx with h | h; exact .inr (by omega); exact .inl (by simp [h]))))
  clear hg hgl hM2 hma e0 e1 e2 f2 q2 b2
  go_wp2_with fail
  rw [rounds_succ]
  go_wp2_with fail
  have hpl2 : w2.cell? ⟨w.heap.size + 1 + 1, 0, none⟩ = some (.slice (some ⟨g, 0, none⟩) 1 cap) := hpl
  have hs : Mod [w.heap.size + 1 + 1] w2 (w2.setCell ⟨w.heap.size + 1 + 1, 0, none⟩ (.slice (some ⟨g, 0, none⟩) 1 cap)) := (Mod.refl _ _).setCell (.inl (by simp)) _
  refine bodyPost_ret (results_word rfl _ _ ⟨w.heap.size + 1 + 1, 0, none⟩ _ rfl Tryz.underlying39 (cell_set_same hpl2)) rfl ?_
  have hgw := HF.out.1.2
  have hgu := HF.out.1.1
  refine ⟨g, cap, rfl, ⟨hs.at hgu.1 (by simp; omega), hs.at hgu.2.1 (by simp; omega), hs.at hgu.2.2 (by simp; omega)⟩, by omega, HF.out.2.step hs (fun x hx => .inr (by simp at hx; omega))⟩

end Go.Proofs.YtpbamamplmbgjaaGreatDoor
