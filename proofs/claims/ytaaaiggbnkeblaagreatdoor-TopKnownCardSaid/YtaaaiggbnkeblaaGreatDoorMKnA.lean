/-
  What TopTold calls: rank.May of whatever, roll.Hear of another node, rumor.Cap, rumor.Take of one.
  Plain facts: the bits of the joins.
  TopKnown: rolls of some nodes: All, Live, Others, many.
  TopKnown: the sort of a queue's items.
-/
import Derived.Test.YtaaaiggbnkeblaaGreatDoorMTopE
import Derived.Test.YtaaaiggbnkeblaaGreatDoorMTopZ
import Derived.Test.YtaaaiggbnkeblaaGreatDoorMTopDe
import Derived.Test.YtaaaiggbnkeblaaGreatDoorMBase
import Derived.Deep.AppendLies
import Derived.Test.YtaaaiggbnkeblaaGreatDoorMTopF
import Derived.Deep.DeepCutAuto
namespace Go.Proofs.YtaaaiggbnkeblaaGreatDoor
set_option linter.unusedSimpArgs false
set_option linter.unusedVariables false
open Go.RowKit

def mayB (n st : Int) : Bool := decide (0 ≤ n) && decide (n < 64) && decide (0 ≤ st) && decide (st ≤ 3)
theorem mayB_true {n st : Int} (h : mayB n st = true) : (0 ≤ n ∧ n < 64) ∧ 0 ≤ st ∧ st ≤ 3 := by
  unfold mayB at h
  simp at h
  omega
theorem tmay_no (n inc st : Int) (h : mayB n st = false) (w : World) :
    Calls Tryz.prog 133 #[.agg #[.int .i64 n, .int .u64 inc, .int .i64 st]] w fun e w' => e = .returned (.bool false) ∧ Mod [] w w' := by
  have H := Lib.hid h
  clear h
  by_cases h1 : 0 ≤ n
  · by_cases h2 : n < 64
    · by_cases h3 : 0 ≤ st
      · have h4 : ¬ st ≤ 3 := fun h4 => by
          have := H.out
          unfold mayB at this
          simp [h1, h2, h3, h4] at this
        have q1 : decide ((0 : Int) ≤ n) = true := by simpa using h1
        have q2 : decide (n < (64 : Int)) = true := by simpa using h2
        have q3 : decide ((0 : Int) ≤ st) = true := by simpa using h3
        have q4 : decide (st ≤ (3 : Int)) = false := by simpa using h4
        go_enter Tryz.func133, Tryz.ntmps133
        go_wp2_with fail
        go_ret
        exact ⟨by simp [*], (Mod.refl [] w).alloc _⟩
      · have q1 : decide ((0 : Int) ≤ n) = true := by simpa using h1
        have q2 : decide (n < (64 : Int)) = true := by simpa using h2
        have q3 : decide ((0 : Int) ≤ st) = false := by simpa using h3
        go_enter Tryz.func133, Tryz.ntmps133
        go_wp2_with fail
        go_ret
        exact ⟨by simp [*], (Mod.refl [] w).alloc _⟩
    · have q1 : decide ((0 : Int) ≤ n) = true := by simpa using h1
      have q2 : decide (n < (64 : Int)) = false := by simpa using h2
      go_enter Tryz.func133, Tryz.ntmps133
      go_wp2_with fail
      go_ret
      exact ⟨by simp [*], (Mod.refl [] w).alloc _⟩
  · have q1 : decide ((0 : Int) ≤ n) = false := by simpa using h1
    go_enter Tryz.func133, Tryz.ntmps133
    go_wp2_with fail
    go_ret
    exact ⟨by simp [*], (Mod.refl [] w).alloc _⟩
theorem rmay_no (n inc st : Int) (h : mayB n st = false) (w : World) :
    Calls Tryz.prog 87 #[.agg #[.int .i64 n, .int .u64 inc, .int .i64 st]] w fun e w' => e = .returned (.bool false) ∧ Mod [] w w' := by
  have H := Lib.hid h
  clear h
  go_enter Tryz.func87, Tryz.ntmps87
  go_wp2_with fail
  refine (tmay_no n inc st H.out _).mono ?_
  rintro e w1 ⟨rfl, hM⟩
  go_wp2_with fail
  go_ret
  exact ⟨rfl, ((Mod.refl [] w).alloc _).trans hM⟩

set_option maxRecDepth 100000 in
set_option maxHeartbeats 4000000 in
/-- Of a node of which nothing is known: it is put. -/
theorem hear_new (r me k : Nat) (hme : me < 64) (hk : k < 64) (hkm : k ≠ me) (inc st has has' : Int) (hst : 0 ≤ st ∧ st ≤ 3) (f : Nat → Int × Int × Int) (w : World) (h : RollAt w r me f has) (hno : (bits .and .u64 has (2 ^ k) != 0) = false) (hor : bits .or .u64 has (2 ^ k) = has') :
    Calls Tryz.prog 97 #[.pointer (some ⟨r, 0, none⟩), .agg #[.int .i64 k, .int .u64 inc, .int .i64 st]] w fun e w' => e = .returned (.tuple #[.bool true, .int .i64 0]) ∧ RollAt w' r me (rollPut f k (k, inc, st)) has' ∧ Mod [r] w w' := by
  have H := Lib.hid h
  have HNO := Lib.hid hno
  have HOR := Lib.hid hor
  have hrl := h.lt
  have hmm : ((k : Int) == (me : Int)) = false := by rw [beq_eq_false_iff_ne]; omega
  clear h hno hor
  go_enter Tryz.func97, Tryz.ntmps97
  go_wp2_with fail
  refine (rmay_is k inc st (by omega) hst _).mono ?_
  rintro e w1 ⟨rfl, hM⟩
  have hM1 := ((Mod.refl [] w).alloc (.cells #[.int .i64 k, .int .u64 inc, .int .i64 st] 55)).trans hM
  have hrow := row_mod hM (heap_new w (.cells #[.int .i64 k, .int .u64 inc, .int .i64 st] 55)) (by simp)
  have HR1 := Lib.hid (H.out.mod hM1 (by simp))
  have HROW := Lib.hid hrow
  have HM := Lib.hid hM1
  have hb : r ≠ w.heap.size := by omega
  clear hM hM1 hrow
  generalize w.heap.size = b at HROW hb ⊢
  have c0 := cell_in HROW.out (show (#[Value.int .i64 k, .int .u64 inc, .int .i64 st] : Array Value)[0]? = some (.int .i64 k) from rfl)
  have cm := HR1.out.me
  go_wp2_with fail
  go_region
  go_wp2_with fail
  replace HR1 := Lib.hid (HR1.out.mod (Mod.refl [] _).drew (by simp))
  replace HROW := Lib.hid (row_drew HROW.out)
  replace HM := Lib.hid HM.out.drew
  clear c0 cm
  generalize w1.drew = wD at HR1 HROW HM ⊢
  have c0 := cell_in HROW.out (show (#[Value.int .i64 k, .int .u64 inc, .int .i64 st] : Array Value)[0]? = some (.int .i64 k) from rfl)
  have ch := HR1.out.has
  go_quiet ((go_at_call 20; refine Calls.quiet_of_same ((has_is has k false hk HNO.out _).mono (fun _ _ h => ⟨h.1, h.2.symm⟩))))
  rename_i nq
  replace HR1 := Lib.hid (HR1.out.mod ((Mod.refl [] _).drewN nq) (by simp))
  replace HROW := Lib.hid (show (wD.drewN nq).heap[b]? = _ from HROW.out)
  replace HM := Lib.hid (HM.out.drewN nq)
  clear c0 ch
  generalize wD.drewN nq = wE at HR1 HROW HM ⊢
  have c0 := cell_in HROW.out (show (#[Value.int .i64 k, .int .u64 inc, .int .i64 st] : Array Value)[0]? = some (.int .i64 k) from rfl)
  have c1 := cell_in HROW.out (show (#[Value.int .i64 k, .int .u64 inc, .int .i64 st] : Array Value)[1]? = some (.int .u64 inc) from rfl)
  have c2 := cell_in HROW.out (show (#[Value.int .i64 k, .int .u64 inc, .int .i64 st] : Array Value)[2]? = some (.int .i64 st) from rfl)
  go_wp2_with fail
  refine (put_any r k me inc st has has' f _ HR1.out hk HOR.out).mono ?_
  rintro e w6 ⟨rfl, hR6, hM6⟩
  have HF := Lib.hid (And.intro hR6 hM6)
  clear hR6 hM6 c0 c1 c2
  go_wp2
  go_ret2
  exact ⟨rfl, HF.out.1, (HM.out.wide (by simp)).trans HF.out.2⟩

set_option maxRecDepth 100000 in
set_option maxHeartbeats 4000000 in
/-- Of a node of which as much is known: nothing happens. -/
theorem hear_old (r me k : Nat) (hme : me < 64) (hk : k < 64) (hkm : k ≠ me) (inc st has : Int) (hst : 0 ≤ st ∧ st ≤ 3) (f : Nat → Int × Int × Int) (w : World) (h : RollAt w r me f has) (hhas : (bits .and .u64 has (2 ^ k) != 0) = true) (hold : decide (0 < or2 (cmp3 inc (f k).2.1) (cmp3 st (f k).2.2)) = false) :
    Calls Tryz.prog 97 #[.pointer (some ⟨r, 0, none⟩), .agg #[.int .i64 k, .int .u64 inc, .int .i64 st]] w fun e w' => e = .returned (.tuple #[.bool false, .int .i64 70]) ∧ Mod [] w w' := by
  have H := Lib.hid h
  have HHAS := Lib.hid hhas
  have HOLD := Lib.hid hold
  have hrl := h.lt
  have hmm : ((k : Int) == (me : Int)) = false := by rw [beq_eq_false_iff_ne]; omega
  clear h hhas hold
  go_enter Tryz.func97, Tryz.ntmps97
  go_wp2_with fail
  refine (rmay_is k inc st (by omega) hst _).mono ?_
  rintro e w1 ⟨rfl, hM⟩
  have hM1 := ((Mod.refl [] w).alloc (.cells #[.int .i64 k, .int .u64 inc, .int .i64 st] 55)).trans hM
  have hrow := row_mod hM (heap_new w (.cells #[.int .i64 k, .int .u64 inc, .int .i64 st] 55)) (by simp)
  have HR1 := Lib.hid (H.out.mod hM1 (by simp))
  have HROW := Lib.hid hrow
  have HM := Lib.hid hM1
  have hb : r ≠ w.heap.size := by omega
  clear hM hM1 hrow
  generalize w.heap.size = b at HROW hb ⊢
  have c0 := cell_in HROW.out (show (#[Value.int .i64 k, .int .u64 inc, .int .i64 st] : Array Value)[0]? = some (.int .i64 k) from rfl)
  have cm := HR1.out.me
  go_wp2_with fail
  go_region
  go_wp2_with fail
  replace HR1 := Lib.hid (HR1.out.mod (Mod.refl [] _).drew (by simp))
  replace HROW := Lib.hid (row_drew HROW.out)
  replace HM := Lib.hid HM.out.drew
  clear c0 cm
  generalize w1.drew = wD at HR1 HROW HM ⊢
  have c0 := cell_in HROW.out (show (#[Value.int .i64 k, .int .u64 inc, .int .i64 st] : Array Value)[0]? = some (.int .i64 k) from rfl)
  have c1 := cell_in HROW.out (show (#[Value.int .i64 k, .int .u64 inc, .int .i64 st] : Array Value)[1]? = some (.int .u64 inc) from rfl)
  have c2 := cell_in HROW.out (show (#[Value.int .i64 k, .int .u64 inc, .int .i64 st] : Array Value)[2]? = some (.int .i64 st) from rfl)
  have ch := HR1.out.has
  have k0 := HR1.out.node k hk
  have k1 := HR1.out.inc k hk
  have k2 := HR1.out.state k hk
  have hk0i : 0 ≤ (k : Int) := by omega
  have hk1i : (k : Int) < 64 := by omega
  obtain ⟨u, hu⟩ : ∃ u, f k = u := ⟨_, rfl⟩
  rw [hu] at k0 k1 k2
  have HNW := Lib.hid (fun w' => rnewer_is k inc st u.1 u.2.1 u.2.2 false (by rw [← hu]; exact HOLD.out) w')
  clear hu
  go_region_held3 (fun w' => w'.cell? ⟨r, 193, none⟩ = some (.int .u64 has) ∧ w'.cell? ⟨b, 0, none⟩ = some (.int .i64 k) ∧ w'.cell? ⟨b, 1, none⟩ = some (.int .u64 inc) ∧ w'.cell? ⟨b, 2, none⟩ = some (.int .i64 st) ∧ w'.cell? ⟨r, 1 + k * 3, none⟩ = some (.int .i64 u.1) ∧ w'.cell? ⟨r, 1 + k * 3 + 1, none⟩ = some (.int .u64 u.2.1) ∧ w'.cell? ⟨r, 1 + k * 3 + 2, none⟩ = some (.int .i64 u.2.2)) (first | exact ⟨ch, c0, c1, c2, k0, k1, k2⟩ | exact ⟨HM6.out.at ch (by simp), HM6.out.at c0 (by simp), HM6.out.at c1 (by simp), HM6.out.at c2 (by simp), HM6.out.at k0 (by simp), HM6.out.at k1 (by simp), HM6.out.at k2 (by simp)⟩) ((first | (go_at_call 20; refine (has_is has k true hk HHAS.out _).mono ?_; rintro e w5 ⟨rfl, rfl⟩) | (go_at_call 95; refine (HNW.out _).mono ?_; rintro e w6 ⟨rfl, hM6⟩; have HM6 := Lib.hid ((Mod.refl [] wD).drew.trans hM6); clear hM6)))
  go_wp2
  go_ret2
  exact ⟨rfl, HM.out.trans HM6.out⟩

set_option maxRecDepth 100000 in
set_option maxHeartbeats 2000000 in
theorem len64_small (n b : Nat) (h : (n = 2 ∧ b = 2) ∨ (n = 3 ∧ b = 2) ∨ (n = 4 ∧ b = 3) ∨ (n = 5 ∧ b = 3) ∨ (n = 6 ∧ b = 3) ∨ (n = 7 ∧ b = 3)) (w : World) : Calls Tryz.prog 251 #[.int .u64 n] w fun e w' => e = .returned (.int .i64 b) ∧ w = w' := by
  rcases h with ⟨rfl, rfl⟩ | ⟨rfl, rfl⟩ | ⟨rfl, rfl⟩ | ⟨rfl, rfl⟩ | ⟨rfl, rfl⟩ | ⟨rfl, rfl⟩
  all_goals
    go_enter Tryz.func251, Tryz.ntmps251
    go_wp2_with fail
    go_ret
    exact ⟨ret_int (by kernel_rfl), rfl⟩
set_option maxRecDepth 100000 in
set_option maxHeartbeats 2000000 in
theorem rbits_small (n b : Nat) (h : (n = 2 ∧ b = 2) ∨ (n = 3 ∧ b = 2) ∨ (n = 4 ∧ b = 3) ∨ (n = 5 ∧ b = 3) ∨ (n = 6 ∧ b = 3) ∨ (n = 7 ∧ b = 3)) (w : World) : Calls Tryz.prog 205 #[.int .i64 n] w fun e w' => e = .returned (.int .i64 b) ∧ w = w' := by
  have HL := Lib.hid (fun w => len64_small n b h w)
  have hn : 0 ≤ (n : Int) ∧ (n : Int) ≤ 7 := by omega
  have hm : max (n : Int) 0 = n := by omega
  have HLN := Lib.hid (show ∀ w, Calls Tryz.prog 198 #[.int .u64 n] w fun e w' => e = .returned (.int .i64 b) ∧ w = w' from fun w => by
    clear hm
    obtain ⟨h0, h1⟩ := hn
    go_enter Tryz.func198, Tryz.ntmps198
    go_wp2_with fail
    refine (HL.out _).mono ?_
    rintro e w1 ⟨rfl, rfl⟩
    go_wp2_with fail
    go_ret
    exact ⟨rfl, rfl⟩)
  obtain ⟨h0, h1⟩ := hn
  clear h
  go_enter Tryz.func205, Tryz.ntmps205
  go_wp2_with fail
  refine (HLN.out _).mono ?_
  rintro e w1 ⟨rfl, rfl⟩
  go_wp2_with fail
  go_ret
  exact ⟨rfl, rfl⟩
theorem cap_small (n : Nat) (h : 2 ≤ n ∧ n ≤ 7) : ∃ c : Nat, 1 < c ∧ c < 10 ∧ ∀ w, Calls Tryz.prog 148 #[.int .i64 n] w fun e w' => e = .returned (.int .i64 c) ∧ w = w' := by
  obtain ⟨b, hb⟩ : ∃ b : Nat, (n = 2 ∧ b = 2) ∨ (n = 3 ∧ b = 2) ∨ (n = 4 ∧ b = 3) ∨ (n = 5 ∧ b = 3) ∨ (n = 6 ∧ b = 3) ∨ (n = 7 ∧ b = 3) := by
    by_cases h4 : n ≤ 3
    · exact ⟨2, by omega⟩
    · exact ⟨3, by omega⟩
  refine ⟨3 * b, by omega, by omega, fun w => ?_⟩
  have HB := Lib.hid (fun w => rbits_small n b hb w)
  have hw : wrap64 (3 * (b : Int)) = 3 * b := wrap_small (by omega) (by omega)
  have hm : max 1 (3 * (b : Int)) = 3 * b := by omega
  clear h hb
  go_enter Tryz.func148, Tryz.ntmps148
  go_wp2_with fail
  refine (HB.out _).mono ?_
  rintro e w1 ⟨rfl, rfl⟩
  go_wp2_with fail
  go_ret
  exact ⟨by simp [*], rfl⟩

theorem infoUpd : ∃ i, Tryz.prog.info? 55 = some i ∧ i.zero = some (.agg #[.int .i64 0, .int .u64 0, .int .i64 0]) ∧ i.size = 3 ∧ i.bytes ≤ 64 := by
  have h : (Tryz.prog.info? 55).map (fun i => (i.zero, i.size, decide (i.bytes ≤ 64))) = some (some (.agg #[.int .i64 0, .int .u64 0, .int .i64 0]), 3, true) := by kernel_rfl
  cases hi : Tryz.prog.info? 55 with
  | none => rw [hi] at h; cases h
  | some i =>
    rw [hi] at h
    simp at h
    exact ⟨i, rfl, h.1, h.2.1, h.2.2⟩
def UpdAt (w : World) (g : Nat) (u : Int × Int × Int) : Prop := w.cell? ⟨g, 0, none⟩ = some (.int .i64 u.1) ∧ w.cell? ⟨g, 1, none⟩ = some (.int .u64 u.2.1) ∧ w.cell? ⟨g, 2, none⟩ = some (.int .i64 u.2.2)
def TellPost (w : World) (pl b : Nat) (u : Int × Int × Int) (e : Ending) (w' : World) : Prop :=
  ∃ g cap, e = .returned (.tuple #[]) ∧ w'.cell? ⟨pl, 0, none⟩ = some (.slice (some ⟨g, 0, none⟩) 1 cap) ∧ UpdAt w' g u ∧ w.heap.size ≤ g ∧ Mod [pl, b] w w' ∧ w'.frozen? ⟨pl, 0, none⟩ = false

set_option maxRecDepth 100000 in
set_option maxHeartbeats 4000000 in
theorem tell_one (q o b pl pn pq n : Nat) (u : Int × Int × Int) (hn : 2 ≤ n ∧ n ≤ 7) (w : World) (hpl : w.cell? ⟨pl, 0, none⟩ = some (.slice none 0 0)) (fpl : w.frozen? ⟨pl, 0, none⟩ = false) (hpn : w.cell? ⟨pn, 0, none⟩ = some (.int .i64 n)) (hpq : w.cell? ⟨pq, 0, none⟩ = some (.pointer (some ⟨q, o, none⟩)))
    (hq : w.cell? ⟨q, o, none⟩ = some (.map (some b))) (hb : OneMap w b u 0) (hne : pl ≠ pn ∧ pl ≠ pq ∧ pl ≠ q ∧ pl ≠ b) :
    Calls Tryz.prog 147 #[.agg #[.int .i64 u.1, .int .u64 u.2.1, .int .i64 u.2.2, .int .i64 0], .pointer (some ⟨pl, 0, none⟩), .pointer (some ⟨pn, 0, none⟩), .pointer (some ⟨pq, 0, none⟩)] w (TellPost w pl b u) := by
  obtain ⟨c, hc1, _, hcap⟩ := cap_small n hn
  have HCAP := Lib.hid hcap
  obtain ⟨ie, hie, hiz, his, hib⟩ := infoUpd
  have HNE := Lib.hid hne
  have HQ := Lib.hid (And.intro hpn (And.intro hpq (And.intro hq hb)))
  have hll := cell_lt' hpl
  have hrow := heap_new w (.cells #[.int .i64 u.1, .int .u64 u.2.1, .int .i64 u.2.2, .int .i64 0] 192)
  have hm0 := (Mod.refl [] w).alloc (.cells #[.int .i64 u.1, .int .u64 u.2.1, .int .i64 u.2.2, .int .i64 0] 192)
  have HPL := Lib.hid (And.intro (hm0.at hpl (by simp)) ((hm0.frozen (p := ⟨pl, 0, none⟩) hll (by simp)).trans fpl))
  have HROW := Lib.hid hrow
  have HM0 := Lib.hid hm0
  have hbl : b < w.heap.size := (Array.getElem?_eq_some_iff.1 (show w.heap[b]? = _ from hb)).1
  have hql := cell_lt' hq
  have hnl := cell_lt' hpn
  have hpql := cell_lt' hpq
  have HLT := Lib.hid (show pl < w.heap.size ∧ b < w.heap.size ∧ q < w.heap.size ∧ pn < w.heap.size ∧ pq < w.heap.size from ⟨hll, hbl, hql, hnl, hpql⟩)
  clear hcap hib hne hpn hpq hq hb hll hrow hm0 hpl fpl hbl hql hnl hpql hn
  go_enter Tryz.func147, Tryz.ntmps147
  go_upto_region 1 with fail
  generalize hB : w.heap.size = bi at HROW HLT ⊢
  generalize w.alloc (.cells #[.int .i64 u.1, .int .u64 u.2.1, .int .i64 u.2.2, .int .i64 0] 192) = W0 at HROW HM0 HPL ⊢
  have hs0 : bi < W0.heap.size := (Array.getElem?_eq_some_iff.1 HROW.out).1
  have x0 := cell_in HROW.out (show (#[Value.int .i64 u.1, .int .u64 u.2.1, .int .i64 u.2.2, .int .i64 0] : Array Value)[0]? = some (.int .i64 u.1) from rfl)
  have x1 := cell_in HROW.out (show (#[Value.int .i64 u.1, .int .u64 u.2.1, .int .i64 u.2.2, .int .i64 0] : Array Value)[1]? = some (.int .u64 u.2.1) from rfl)
  have x2 := cell_in HROW.out (show (#[Value.int .i64 u.1, .int .u64 u.2.1, .int .i64 u.2.2, .int .i64 0] : Array Value)[2]? = some (.int .i64 u.2.2) from rfl)
  have p0 := HPL.out.1
  have HEV := Lib.hid (World.news_of_block (heap_new W0 (.cells #[.int .i64 u.1, .int .u64 u.2.1, .int .i64 u.2.2] 55)))
  have hone : ∀ v ∈ ([.int .i64 u.1, .int .u64 u.2.1, .int .i64 u.2.2] : List Value), v.oneCell' = true := by
    intro v hv
    simp at hv
    rcases hv with rfl | rfl | rfl <;> rfl
  have HONE := Lib.hid hone
  obtain ⟨i2, hi2, hz2, hs2, hb2⟩ := infoUpd
  have hby : (0 + 1) * ie.bytes ≤ 140737488355328 := by
    rw [hie] at hi2
    cases hi2
    omega
  have hmx : 0 + 1 ≤ maxLen := by unfold maxLen; omega
  have hbs : bi ≤ (W0.alloc (.cells #[.int .i64 u.1, .int .u64 u.2.1, .int .i64 u.2.2] 55)).heap.size := by simp; omega
  have hnil : (W0.alloc (.cells #[.int .i64 u.1, .int .u64 u.2.1, .int .i64 u.2.2] 55)).ownsRow bi 55 3 (.slice none 0 0) 0 [] := ⟨rfl, .inl ⟨rfl, rfl⟩⟩
  have HAR := Lib.hid (And.intro hby (And.intro hmx (And.intro hbs hnil)))
  have HS0 := Lib.hid hs0
  clear hone hby hmx hbs hnil hi2 hz2 hs2 hb2 i2 hs0
  have pfz := HPL.out.2
  have pll : pl < W0.heap.size := cell_lt' p0
  go_upto_region 2 with (at_builtin; with_reducible refine wpList_append_lies _ rfl (.tmp 5) (.tmp 8) 37 rfl bi 55 ie _ 3 ie.bytes Tryz.underlying37 hie hiz his rfl rfl (by decide) (.slice none 0 0) 0 [] rfl HAR.out.2.2.2 ⟨W0.heap.size, 0, none⟩ 1 1 [.int .i64 u.1, .int .u64 u.2.1, .int .i64 u.2.2] rfl rfl HEV.out HONE.out (by decide) HAR.out.2.1 HAR.out.1 HAR.out.2.2.1 _ rfl ?_; intro g cap w2 hown hgrow hat hlt2; have hm2 := Lib.hid (show Mod [] W0 w2 from Mod.grown_none ((Mod.refl [] W0).alloc _) hgrow); have HOWN := Lib.hid hown; have HAT := Lib.hid hat; have p2 := hm2.out.at p0 (by simp); have pf2 := (hm2.out.frozen (p := ⟨pl, 0, none⟩) pll (by simp)).trans pfz; clear hown hgrow hat hlt2)
  have hgc := ownsRow_cells HOWN.out
  have hg := ownsRow_ge HOWN.out g rfl
  have hgW : W0.heap.size ≤ g := by
    rcases HAT.out with h | h
    · cases h
    · simp at h
      omega
  have hneq := HNE.out
  have hlt := HLT.out
  have hs1 : Mod [pl] w2 (w2.setCell ⟨pl, 0, none⟩ (.slice (some ⟨g, 0, none⟩) (0 + 1) cap)) := (Mod.refl _ _).setCell (.inl (by simp)) _
  have HPL2 := Lib.hid (show (w2.setCell ⟨pl, 0, none⟩ (.slice (some ⟨g, 0, none⟩) (0 + 1) cap)).cell? ⟨pl, 0, none⟩ = some (.slice (some ⟨g, 0, none⟩) 1 cap) from cell_set_same p2)
  have HPF := Lib.hid (show (w2.setCell ⟨pl, 0, none⟩ (.slice (some ⟨g, 0, none⟩) (0 + 1) cap)).frozen? ⟨pl, 0, none⟩ = false from (frozen_set _ _ _ _).trans pf2)
  have HG := Lib.hid (show UpdAt (w2.setCell ⟨pl, 0, none⟩ (.slice (some ⟨g, 0, none⟩) (0 + 1) cap)) g u ∧ W0.heap.size ≤ g from ⟨⟨hs1.at (hgc 0 _ rfl) (by simp; omega), hs1.at (hgc 1 _ rfl) (by simp; omega), hs1.at (hgc 2 _ rfl) (by simp; omega)⟩, hgW⟩)
  have HM2 := Lib.hid ((HM0.out.trans hm2.out).wide (T := [pl]) (by simp) |>.trans hs1)
  have HR2 := Lib.hid (row_mod hs1 (row_mod hm2.out HROW.out (by simp)) (show bi ∉ [pl] by simp; omega))
  clear x0 x1 x2 p0 pfz pll p2 pf2 hgc hg hgW hs1 hneq hlt hm2 HOWN HAT HPL HROW HEV HONE HAR HM0
  generalize w2.setCell ⟨pl, 0, none⟩ (.slice (some ⟨g, 0, none⟩) (0 + 1) cap) = W2 at HPL2 HPF HG HM2 HR2 ⊢
  have x3 := cell_in HR2.out (show (#[Value.int .i64 u.1, .int .u64 u.2.1, .int .i64 u.2.2, .int .i64 0] : Array Value)[3]? = some (.int .i64 0) from rfl)
  have f3 := free_in (j := 3) HR2.out
  go_upto_region 3 with fail
  have hs3 : Mod [bi] W2 (W2.setCell ⟨bi, 3, none⟩ (.int .i64 1)) := (Mod.refl _ _).setCell (.inl (by simp)) _
  have hneq := HNE.out
  have hlt := HLT.out
  have hgW := HG.out.2
  have hs0 := HS0.out
  have y0 : (W2.setCell ⟨bi, 3, none⟩ (.int .i64 1)).cell? ⟨bi, 0, none⟩ = some (.int .i64 u.1) := (cell_set_off _ _ _ _ (by simp)).trans (cell_in HR2.out (show (#[Value.int .i64 u.1, .int .u64 u.2.1, .int .i64 u.2.2, .int .i64 0] : Array Value)[0]? = some (.int .i64 u.1) from rfl))
  have y1 : (W2.setCell ⟨bi, 3, none⟩ (.int .i64 1)).cell? ⟨bi, 1, none⟩ = some (.int .u64 u.2.1) := (cell_set_off _ _ _ _ (by simp)).trans (cell_in HR2.out (show (#[Value.int .i64 u.1, .int .u64 u.2.1, .int .i64 u.2.2, .int .i64 0] : Array Value)[1]? = some (.int .u64 u.2.1) from rfl))
  have y2 : (W2.setCell ⟨bi, 3, none⟩ (.int .i64 1)).cell? ⟨bi, 2, none⟩ = some (.int .i64 u.2.2) := (cell_set_off _ _ _ _ (by simp)).trans (cell_in HR2.out (show (#[Value.int .i64 u.1, .int .u64 u.2.1, .int .i64 u.2.2, .int .i64 0] : Array Value)[2]? = some (.int .i64 u.2.2) from rfl))
  have y3 : (W2.setCell ⟨bi, 3, none⟩ (.int .i64 1)).cell? ⟨bi, 3, none⟩ = some (.int .i64 1) := cell_set_same x3
  have hb0 : bi = w.heap.size := hB.symm
  replace HPL2 := Lib.hid (hs3.at HPL2.out (by simp; omega))
  replace HPF := Lib.hid (show (W2.setCell ⟨bi, 3, none⟩ (.int .i64 1)).frozen? ⟨pl, 0, none⟩ = false from (frozen_set _ _ _ _).trans HPF.out)
  replace HG := Lib.hid (show UpdAt (W2.setCell ⟨bi, 3, none⟩ (.int .i64 1)) g u ∧ W0.heap.size ≤ g from ⟨⟨hs3.at HG.out.1.1 (by simp; omega), hs3.at HG.out.1.2.1 (by simp; omega), hs3.at HG.out.1.2.2 (by simp; omega)⟩, hgW⟩)
  replace HM2 := Lib.hid (HM2.out.step hs3 (fun x hx => .inr (by simp at hx; omega)))
  have HY := Lib.hid (And.intro y0 (And.intro y1 (And.intro y2 y3)))
  clear hs3 hgW hs0 y0 y1 y2 y3 x3 f3 hb0 HR2
  generalize W2.setCell ⟨bi, 3, none⟩ (.int .i64 1) = W3 at HPL2 HPF HG HM2 HY ⊢
  have y3 := HY.out.2.2.2
  have n0 := HM2.out.at HQ.out.1 (by simp; omega)
  have hc1' : (1 : Int) < c := by omega
  go_region_held3 (fun w' => w'.cell? ⟨bi, 3, none⟩ = some (.int .i64 1) ∧ w'.cell? ⟨pn, 0, none⟩ = some (.int .i64 n)) (exact ⟨y3, n0⟩) ((go_at_call 148; refine (HCAP.out _).mono ?_; rintro e w5 ⟨rfl, rfl⟩))
  clear y3 n0
  replace HPL2 := Lib.hid ((Mod.refl [] W3).drew.at HPL2.out (by simp))
  replace HPF := Lib.hid (show W3.drew.frozen? ⟨pl, 0, none⟩ = false from HPF.out)
  replace HG := Lib.hid (show UpdAt W3.drew g u ∧ W0.heap.size ≤ g from HG.out)
  replace HM2 := Lib.hid HM2.out.drew
  have q1 := HM2.out.at HQ.out.2.1 (by simp; omega)
  have q2 := HM2.out.at HQ.out.2.2.1 (by simp; omega)
  have hm := row_mod HM2.out HQ.out.2.2.2 (show b ∉ [pl] by simp; omega)
  obtain ⟨y0, y1, y2, y3⟩ := HY.out
  have z0 := (Mod.refl [] W3).drew.at y0 (by simp)
  have z1 := (Mod.refl [] W3).drew.at y1 (by simp)
  have z2 := (Mod.refl [] W3).drew.at y2 (by simp)
  have z3 := (Mod.refl [] W3).drew.at y3 (by simp)
  clear y0 y1 y2 y3 HY
  generalize W3.drew = W4 at HPL2 HPF HG HM2 q1 q2 hm z0 z1 z2 z3 ⊢
  have hput := mrun_update_one (P := Tryz.prog) (w := W4.drew) (t := 70) (v := .agg #[.int .i64 u.1, .int .u64 u.2.1, .int .i64 u.2.2, .int .i64 1]) Tryz.underlying70 Tryz.underlying3 (show W4.drew.heap[b]? = some (.map #[{ key := .int .i64 u.1, val := itemV u 0, born := 0 }] 1) from hm)
  have hmp : ∀ o, Mod [b] W4 (W4.drew.putObj b o) := fun o => ⟨rfl, rfl, rfl, by simp, fun k _ hk => World.putObj_heap_other (by simpa using hk)⟩
  have HMP := Lib.hid hmp
  clear hmp hm
  go_wp2_with fail
  go_region
  go_wp2_with fail
  refine bodyPost_end (results_none rfl _ _ _) rfl ?_
  have hmf := HMP.out (.map #[{ key := .int .i64 u.1, val := .agg #[.int .i64 u.1, .int .u64 u.2.1, .int .i64 u.2.2, .int .i64 1], born := 0 }] 1)
  have hgW := HG.out.2
  have hs0 := HS0.out
  refine ⟨g, cap, rfl, hmf.at HPL2.out (by simp; omega), ⟨hmf.at HG.out.1.1 (by simp; omega), hmf.at HG.out.1.2.1 (by simp; omega), hmf.at HG.out.1.2.2 (by simp; omega)⟩, by omega, (HM2.out.wide (by simp)).trans (hmf.wide (by simp)), (hmf.frozen (p := ⟨pl, 0, none⟩) (cell_lt' HPL2.out) (by simp; omega)).trans HPF.out⟩

def TakePost (w : World) (b : Nat) (u : Int × Int × Int) (e : Ending) (w' : World) : Prop := ∃ g cap, e = .returned (.slice (some ⟨g, 0, none⟩) 1 cap) ∧ UpdAt w' g u ∧ w.heap.size ≤ g ∧ Mod [b] w w'

set_option maxRecDepth 100000 in
set_option maxHeartbeats 4000000 in
theorem qtake_one (q o b n : Nat) (u : Int × Int × Int) (hn : 2 ≤ n ∧ n ≤ 7) (w : World) (hq : w.cell? ⟨q, o, none⟩ = some (.map (some b))) (hb : OneMap w b u 0) :
    Calls Tryz.prog 106 #[.pointer (some ⟨q, o, none⟩), .int .i64 8, .int .i64 n] w (TakePost w b u) := by
  have hmf : ∀ fn first cap w, (Instr.makeFunc fn first cap).run Tryz.prog w = .ok (.func fn first cap) w := fun _ _ _ _ => rfl
  have HN := Lib.hid hn
  have hbl : b < w.heap.size := (Array.getElem?_eq_some_iff.1 (show w.heap[b]? = _ from hb)).1
  have hql := cell_lt' hq
  have hm := (((Mod.refl [] w).alloc (.cells #[.pointer (some ⟨q, o, none⟩)] 190)).alloc (.cells #[.int .i64 n] 3)).alloc (.cells #[.slice none 0 0] 37)
  have r0 := row_alloc (o := .cells #[.slice none 0 0] 37) (row_alloc (o := .cells #[.int .i64 n] 3) (heap_new w (.cells #[.pointer (some ⟨q, o, none⟩)] 190)))
  have r1 := row_alloc (o := .cells #[.slice none 0 0] 37) (heap_at (w.alloc (.cells #[.pointer (some ⟨q, o, none⟩)] 190)) (.cells #[.int .i64 n] 3) (w.heap.size + 1) (by simp))
  have r2 := heap_at ((w.alloc (.cells #[.pointer (some ⟨q, o, none⟩)] 190)).alloc (.cells #[.int .i64 n] 3)) (.cells #[.slice none 0 0] 37) (w.heap.size + 1 + 1) (by simp)
  have HM := Lib.hid hm
  have HR := Lib.hid (And.intro r0 (And.intro r1 r2))
  have HQ := Lib.hid (And.intro hq hb)
  have HLT := Lib.hid (And.intro hbl (show q < w.heap.size from hql))
  clear hn hq hb hm r0 r1 r2 hbl hql
  go_enter Tryz.func106, Tryz.ntmps106
  go_upto_region 2 with fail
  generalize ((w.alloc (.cells #[.pointer (some ⟨q, o, none⟩)] 190)).alloc (.cells #[.int .i64 n] 3)).alloc (.cells #[.slice none 0 0] 37) = W0 at HM HR ⊢
  have x0 := cell_in HR.out.1 (show (#[Value.pointer (some ⟨q, o, none⟩)] : Array Value)[0]? = some (.pointer (some ⟨q, o, none⟩)) from rfl)
  have hq0 := HM.out.at HQ.out.1 (by simp)
  have hb0 : OneMap W0 b u 0 := row_mod HM.out (show w.heap[b]? = _ from HQ.out.2) (by simp)
  go_wp2_with fail
  refine (items_one q o b u 0 _ hq0 hb0).mono ?_
  rintro e w1 ⟨⟨a, rfl, hal, ha0, cs, hcs, c0, c1, c2, c3⟩, hM1⟩
  have d0 := cell_in hcs c0
  have d1 := cell_in hcs c1
  have d2 := cell_in hcs c2
  have d3 := cell_in hcs c3
  have hm1 : min (8 : Int) 1 = 1 := by decide
  have HM1 := Lib.hid (HM.out.trans hM1)
  have HW := Lib.hid hM1
  have HA0 := Lib.hid (show w.heap.size + 3 ≤ a from by have h1 := HM.out.size; have h2 := (Array.getElem?_eq_some_iff.1 HR.out.2.2).1; omega)
  clear x0 hq0 hb0 hcs c0 c1 c2 c3 hM1 ha0 hal
  go_wp2_with fail
  refine wp_loop_rounds 2 ?_
  rw [rounds_succ]
  go_wp2_with fail
  have hal1 : a < w1.heap.size := cell_lt' d0
  have ha0 : w.heap.size + 3 ≤ a := HA0.out
  have hx := HR.out
  have e0 := HW.out.at (cell_in hx.1 (show (#[Value.pointer (some ⟨q, o, none⟩)] : Array Value)[0]? = some (.pointer (some ⟨q, o, none⟩)) from rfl)) (by simp)
  have e1 := HW.out.at (cell_in hx.2.1 (show (#[Value.int .i64 n] : Array Value)[0]? = some (.int .i64 n) from rfl)) (by simp)
  have e2 := HW.out.at (cell_in hx.2.2 (show (#[Value.slice none 0 0] : Array Value)[0]? = some (.slice none 0 0) from rfl)) (by simp)
  have f2 := (HW.out.frozen (p := ⟨w.heap.size + 1 + 1, 0, none⟩) (Array.getElem?_eq_some_iff.1 hx.2.2).1 (by simp)).trans (free_in (j := 0) hx.2.2)
  have q2 := HM1.out.at HQ.out.1 (by simp)
  have b2 : OneMap w1 b u 0 := row_mod HM1.out (show w.heap[b]? = _ from HQ.out.2) (by simp)
  have hma := (Mod.refl [] w1).alloc (.cells #[.int .i64 u.1, .int .u64 u.2.1, .int .i64 u.2.2, .int .i64 0] 192)
  have hlt := HLT.out
  refine (tell_one q o b (w.heap.size + 1 + 1) (w.heap.size + 1) w.heap.size n u HN.out _ (hma.at e2 (by simp)) ((hma.frozen (p := ⟨w.heap.size + 1 + 1, 0, none⟩) (cell_lt' e2) (by simp)).trans f2) (hma.at e1 (by simp)) (hma.at e0 (by simp)) (hma.at q2 (by simp)) (row_mod hma (show w1.heap[b]? = _ from b2) (by simp)) (by omega)).mono ?_
  rintro _ w2 ⟨g, cap, rfl, hpl, hg, hgl, hM2, hf2⟩
  have hlt2 := HLT.out
  have h1 := HM1.out.size
  have hplb : w.heap.size + 1 + 1 ≠ b := by omega
  have HF := Lib.hid (And.intro (show UpdAt w2 g u ∧ w1.heap.size < g from ⟨hg, by simp at hgl; omega⟩) ((HM1.out.wide (T := [b]) (by simp)).step ((hma.wide (T := [w.heap.size + 1 + 1, b]) (by simp)).trans hM2) (fun x hx => by simp at hx; rcases hx with h | h; exact .inr (by omega); exact .inl (by simp [h]))))
  clear hg hgl hM2 hma e0 e1 e2 f2 q2 b2
  go_wp2_with fail
  rw [rounds_succ]
  go_wp2_with fail
  have hpl2 : w2.cell? ⟨w.heap.size + 1 + 1, 0, none⟩ = some (.slice (some ⟨g, 0, none⟩) 1 cap) := hpl
  have hs : Mod [w.heap.size + 1 + 1] w2 (w2.setCell ⟨w.heap.size + 1 + 1, 0, none⟩ (.slice (some ⟨g, 0, none⟩) 1 cap)) := (Mod.refl _ _).setCell (.inl (by simp)) _
  refine bodyPost_ret (results_word rfl _ _ ⟨w.heap.size + 1 + 1, 0, none⟩ _ rfl Tryz.underlying37 (cell_set_same hpl2)) rfl ?_
  have hgw := HF.out.1.2
  have hgu := HF.out.1.1
  refine ⟨g, cap, rfl, ⟨hs.at hgu.1 (by simp; omega), hs.at hgu.2.1 (by simp; omega), hs.at hgu.2.2 (by simp; omega)⟩, by omega, HF.out.2.step hs (fun x hx => .inr (by simp at hx; omega))⟩

end Go.Proofs.YtaaaiggbnkeblaaGreatDoor

namespace Go.Proofs.YtaaaiggbnkeblaaGreatDoor
set_option linter.unusedSimpArgs false
set_option linter.unusedVariables false
open Go.RowKit

def bitsList : Nat → Int → Option (List Int)
  | 0, x => if (x == 0) = true then some [] else none
  | f + 1, x => if (x == 0) = true then some [] else
    if bits .and .u64 x (IntKind.u64.wrap (-x)) = 2 ^ (bits .and .u64 x (IntKind.u64.wrap (-x))).toNat.log2 ∧ (bits .and .u64 x (IntKind.u64.wrap (-x))).toNat.log2 < 64 ∧ 0 ≤ bits .and .u64 x (IntKind.u64.wrap (x - 1)) ∧ bits .and .u64 x (IntKind.u64.wrap (x - 1)) < x then
      (bitsList f (bits .and .u64 x (IntKind.u64.wrap (x - 1)))).map (fun l => ((bits .and .u64 x (IntKind.u64.wrap (-x))).toNat.log2 : Int) :: l) else none
theorem bitsList_ok (f : Nat) : ∀ (x : Int) (ks : List Int), bitsList f x = some ks → Bits x ks := by
  induction f with
  | zero =>
    intro x ks h
    unfold bitsList at h
    split at h
    · rename_i h0
      have : x = 0 := by simpa using h0
      subst this
      cases h
      exact .nil
    · cases h
  | succ f ih =>
    intro x ks h
    unfold bitsList at h
    split at h
    · rename_i h0
      have : x = 0 := by simpa using h0
      subst this
      cases h
      exact .nil
    · rename_i h0
      split at h
      · rename_i hc
        rw [Option.map_eq_some_iff] at h
        obtain ⟨l, hl, rfl⟩ := h
        exact .cons (by simpa using h0) hc.1 hc.2.1 rfl hc.2.2.1 hc.2.2.2 (ih _ _ hl)
      · cases h
def joinsOk (j : Nat) : Bool := match bitsList 9 (8 * (j : Int)) with
  | some ks => decide (ks.length ≤ 8) && ks.all (fun x => decide (3 ≤ x) && decide (x < 64)) && (bits .andNot .u64 (8 * (j : Int)) 1 == 8 * (j : Int)) && (bits .andNot .u64 (bits .or .u64 7 (8 * (j : Int))) 7 == 8 * (j : Int))
  | none => false
theorem joinsOk_all : (List.range 256).all joinsOk = true := by kernel_rfl
theorem joins_bits (j : Nat) (h : j < 256) : ∃ ks, Bits (8 * (j : Int)) ks ∧ ks.length ≤ 8 ∧ (∀ x ∈ ks, 3 ≤ x ∧ x < 64) ∧ bits .andNot .u64 (8 * (j : Int)) 1 = 8 * (j : Int) ∧ bits .andNot .u64 (bits .or .u64 7 (8 * (j : Int))) 7 = 8 * (j : Int) := by
  have h1 := List.all_eq_true.1 joinsOk_all j (List.mem_range.2 h)
  unfold joinsOk at h1
  split at h1
  · rename_i ks hk
    simp only [Bool.and_eq_true, decide_eq_true_eq, List.all_eq_true, beq_iff_eq] at h1
    exact ⟨ks, bitsList_ok _ _ _ hk, h1.1.1.1, h1.1.1.2, h1.1.2, h1.2⟩
  · cases h1
theorem bits_six : Bits 6 [1, 2] := .cons (k := 1) (x' := 4) rfl (by decide) (by decide) (by decide) (by decide) (by decide) (.cons (k := 2) (x' := 0) rfl (by decide) (by decide) (by decide) (by decide) (by decide) .nil)
theorem bits_seven : Bits 7 [0, 1, 2] := .cons (k := 0) (x' := 6) rfl (by decide) (by decide) (by decide) (by decide) (by decide) bits_six
end Go.Proofs.YtaaaiggbnkeblaaGreatDoor

namespace Go.Proofs.YtaaaiggbnkeblaaGreatDoor
set_option linter.unusedSimpArgs false
set_option linter.unusedVariables false
open Go.RowKit

def orAll (ks : List Int) : Int := ks.foldl (fun b x => bits .or .u64 b (2 ^ x.toNat)) 0
theorem orAll_snoc (ks : List Int) (x : Int) : orAll (ks ++ [x]) = bits .or .u64 (orAll ks) (2 ^ x.toNat) := by simp [orAll]
def smallOk (h : Nat) : Bool := match bitsList 9 (h : Int) with
  | some ks => decide (ks.length ≤ 6) && ks.all (fun x => decide (0 ≤ x) && decide (x < 6) && (bits .and .u64 (h : Int) (2 ^ x.toNat) != 0)) && (orAll ks == (h : Int))
  | none => false
theorem smallOk_all : (List.range 64).all smallOk = true := by kernel_rfl
theorem small_bits (h : Nat) (hh : h < 64) : ∃ ks : List Int, Bits (h : Int) ks ∧ ks.length ≤ 6 ∧ (∀ x ∈ ks, 0 ≤ x ∧ x < 6 ∧ (bits .and .u64 (h : Int) (2 ^ x.toNat) != 0) = true) ∧ orAll ks = h := by
  have h1 := List.all_eq_true.1 smallOk_all h (List.mem_range.2 hh)
  unfold smallOk at h1
  split at h1
  · rename_i ks hk
    simp only [Bool.and_eq_true, decide_eq_true_eq, List.all_eq_true, beq_iff_eq] at h1
    exact ⟨ks, bitsList_ok _ _ _ hk, h1.1.1, fun x hx => ⟨(h1.1.2 x hx).1.1, (h1.1.2 x hx).1.2, (h1.1.2 x hx).2⟩, h1.2⟩
  · cases h1

def ucells (u : Int × Int × Int) : List Value := [.int .i64 u.1, .int .u64 u.2.1, .int .i64 u.2.2]
def uflat (L : List (Int × Int × Int)) : List Value := L.flatMap ucells
theorem uflat_snoc (L : List (Int × Int × Int)) (u : Int × Int × Int) : uflat (L ++ [u]) = uflat L ++ ucells u := by simp [uflat]
theorem uflat_at (L : List (Int × Int × Int)) (i : Nat) (u : Int × Int × Int) (h : L[i]? = some u) : (uflat L)[i * 3]? = some (.int .i64 u.1) ∧ (uflat L)[i * 3 + 1]? = some (.int .u64 u.2.1) ∧ (uflat L)[i * 3 + 2]? = some (.int .i64 u.2.2) := by
  induction L generalizing i with
  | nil => cases h
  | cons v L ih =>
    cases i with
    | zero =>
      cases h
      exact ⟨rfl, rfl, rfl⟩
    | succ i =>
      have h' : L[i]? = some u := h
      have := ih i h'
      have e : uflat (v :: L) = ucells v ++ uflat L := by simp [uflat]
      have hl : (ucells v).length = 3 := rfl
      rw [e, show (i + 1) * 3 = 3 + i * 3 by omega]
      refine ⟨?_, ?_, ?_⟩
      · rw [List.getElem?_append_right (by rw [hl]; omega), hl, show 3 + i * 3 - 3 = i * 3 by omega]; exact this.1
      · rw [List.getElem?_append_right (by rw [hl]; omega), hl, show 3 + i * 3 + 1 - 3 = i * 3 + 1 by omega]; exact this.2.1
      · rw [List.getElem?_append_right (by rw [hl]; omega), hl, show 3 + i * 3 + 2 - 3 = i * 3 + 2 by omega]; exact this.2.2
theorem ownsRow_base {w : World} {B B' n size : Nat} {e : TypeId} {v : Value} {xs : List Value} (h : w.ownsRow B e size v n xs) (hB : B' ≤ B) : w.ownsRow B' e size v n xs := by
  obtain ⟨hl, h⟩ := h
  refine ⟨hl, ?_⟩
  rcases h with ⟨rfl, h0⟩ | ⟨g, cap, cur, rfl, hb, hg, h1, h2, h3, h4⟩
  · exact .inl ⟨rfl, h0⟩
  · exact .inr ⟨g, cap, cur, rfl, Nat.le_trans hB hb, hg, h1, h2, h3, h4⟩
/-- Updates in a row of one's own. -/
def Upds (w : World) (B : Nat) (v : Value) (L : List (Int × Int × Int)) : Prop := w.ownsRow B 55 3 v L.length (uflat L)

/-- At a step of a region that draws its order: an append whose run is known. -/
theorem stepk_append_run {P : Program} {w : World} {ops : Array Oper} {o : Oper} {a : Act} {K : Act → World → Prop} {Q : Exit → Act → World → Prop} {E : Prop} (hgd : o.guard = none) (s x : Operand) (t : TypeId)
    (ho : o.op = .call { callee := .builtin .append, args := #[s, x], argTypes := #[t, t] }) (v y v' : Value) (w' : World) (hs : a.eval s = v) (hx : a.eval x = y) (hr : (Builtin.append_ #[t, t] o.type #[v, y]).run P w = .ok v' w') (h : K (a.put o.dst v') w') :
    if Region.wanted o (yielded ops a.tmps) = true then Oper.wp P o a w K Q else E := by
  have hw : Region.wanted o (yielded ops a.tmps) = true := by simp [Region.wanted, hgd]
  rw [if_pos hw]
  unfold Oper.wp execOp
  simp only [ho, resolve, invoke, builtin, Sem.run_bind, Sem.run_pure, Result.andThen_ok, List.map_toArray, List.map_cons, List.map_nil, hs, hx, hr]
  exact h
theorem wplk_append_run {P : Program} (w : World) {ops : Array Oper} {rest : List Oper} {o : Oper} {a : Act} {Q : Exit → Act → World → Prop} (hgd : o.guard = none) (s x : Operand) (t : TypeId)
    (ho : o.op = .call { callee := .builtin .append, args := #[s, x], argTypes := #[t, t] }) (v u : Value) (hs : a.eval s = v) (hx : a.eval x = u) {v' : Value} {w' : World}
    (hr : (Builtin.append_ #[t, t] o.type #[v, u]).run P w = .ok v' w') (h : wpList P ops Q rest (a.put o.dst v') w') : wpList P ops Q (o :: rest) a w := by
  refine wpList_plain hgd fun K hK => ?_
  unfold Oper.wp execOp
  simp only [ho, resolve, invoke, builtin, Sem.run_bind, Sem.run_pure, Result.andThen_ok, List.map_toArray, List.map_cons, List.map_nil, hs, hx, hr]
  exact hK _ _ h


theorem upds_push (w : World) (B : Nat) (v : Value) (L : List (Int × Int × Int)) (g : Nat) (u : Int × Int × Int) (h : Upds w B v L) (hl : L.length ≤ 1000) (hg : w.heap[g]? = some (.cells #[.int .i64 u.1, .int .u64 u.2.1, .int .i64 u.2.2] 55 (0, 0))) (hB : B ≤ w.heap.size) :
    ∃ v' w', (Builtin.append_ #[37, 37] 37 #[v, .slice (some ⟨g, 0, none⟩) 1 1]).run Tryz.prog w = .ok v' w' ∧ Upds w' B v' (L ++ [u]) ∧ w.grownBy w' v.ownBlock := by
  obtain ⟨i, hi, hz, hs, hb⟩ := infoUpd
  have hby : (L.length + 1) * i.bytes ≤ 140737488355328 := by
    have := Nat.mul_le_mul (show L.length + 1 ≤ 1001 by omega) hb
    omega
  have hnews : ∀ j x, (ucells u)[j]? = some x → w.cell? ((⟨g, 0, none⟩ : Addr).add j) = some x := World.news_of_block hg
  obtain ⟨v', w', hr, h2, h3, _, _⟩ := run_append_own_at (P := Tryz.prog) w B 37 37 55 i _ 3 i.bytes Tryz.underlying37 hi hz hs rfl rfl (by decide) v L.length _ h ⟨g, 0, none⟩ 1 1 (ucells u) rfl hnews (by simp [ucells, Value.oneCell']) (by unfold maxLen; omega) hby hB
  refine ⟨v', w', hr, ?_, h3⟩
  unfold Upds
  rw [uflat_snoc, List.length_append]
  exact h2
theorem meas_next {n k : Nat} (h : k < n) : n - ((k : Int) + 1).toNat < n - ((k : Int)).toNat := by omega
/-- One more update is written behind those that are there. -/
def UpdRel (w4 : World) (L : List (Int × Int × Int)) (v : Value) (wr : World) : Prop := Upds wr w4.heap.size v L ∧ Mod [] w4 wr
theorem UpdRel.push {w4 wr w' : World} {L : List (Int × Int × Int)} {v v' : Value} {u : Int × Int × Int} {o : Obj} (h : UpdRel w4 L v wr) (hown : Upds w' w4.heap.size v' (L ++ [u])) (hg : (wr.alloc o).grownBy w' v.ownBlock) : UpdRel w4 (L ++ [u]) v' w' := by
  refine ⟨hown, ?_⟩
  have hge := ownsRow_ge h.1
  exact h.2.step (Mod.grownOwn ((Mod.refl [] wr).alloc o) hg) (fun x hx => by
    rw [Option.mem_toList] at hx
    exact .inr (hge x hx).1)

set_option maxRecDepth 100000 in
set_option maxHeartbeats 4000000 in
theorem all_is (r : Nat) (me has : Int) (f : Nat → Int × Int × Int) (ks : List Int) (w : World) (h : RollAt w r me f has) (ht : Tab w) (hB : Bits has ks) (hk : ks.length ≤ 6) (hkb : ∀ x ∈ ks, 0 ≤ x ∧ x < 6) :
    Calls Tryz.prog 17 #[.pointer (some ⟨r, 0, none⟩)] w fun e w' => ∃ v, e = .returned v ∧ Upds w' w.heap.size v (ks.map fun x : Int => f x.toNat) ∧ Mod [] w w' := by
  have H := Lib.hid h
  have cm := h.has
  have hrl := h.lt
  have HT := Lib.hid ht
  obtain ⟨n, hn⟩ : ∃ n, ks.length = n := ⟨_, rfl⟩
  rw [hn] at hk
  have HKB := Lib.hid (And.intro hkb hn)
  have HK6 := Lib.hid hk
  clear h ht hkb hk
  go_enter Tryz.func17, Tryz.ntmps17
  go_wp2_with fail
  refine (blist_is has ks hB (by rw [hn]; have := HK6.out; omega) _ HT.out).mono ?_
  rintro e w4 ⟨v, rfl, hO, hM4⟩
  obtain ⟨a, cc, rfl, hrd, hnc, hlc, hcm, hge⟩ := hO.shape
  rw [hn]
  have HRD := Lib.hid hrd
  have HM4 := Lib.hid hM4
  have H4 := Lib.hid (H.out.mod hM4 (by simp))
  have HGE := Lib.hid hge
  obtain ⟨iu, hiu, huz, hus, hub⟩ := infoUpd
  have hz3 : (Value.agg #[.int .i64 0, .int .u64 0, .int .i64 0]).cells.size = 3 := rfl
  have HUB := Lib.hid hub
  clear hO hrd hM4 hnc hlc hcm hge cm hB hn hub
  go_wp2_with fail
  go_loopw [2, 11] (fun v1 i wr => ∃ k : Nat, i = .int .i64 k ∧ k ≤ n ∧ UpdRel w4 ((ks.take k).map fun x : Int => f x.toNat) v1 wr) (fun _ i _ => n - (intOf i).toNat)
  case atStart => exact ⟨0, rfl, Nat.zero_le _, ⟨rfl, .inl ⟨rfl, rfl⟩⟩, Mod.refl _ _⟩
  case round =>
    obtain ⟨k, rfl, hkn, hrel⟩ := hrel
    have hMr := hrel.2
    by_cases hlt : k < n
    · have hlt' : (k : Int) < n := by omega
      obtain ⟨x, hx⟩ : ∃ x, ks[k]? = some x := ⟨_, List.getElem?_eq_getElem (by have := HKB.out.2; omega)⟩
      have hxb := HKB.out.1 x (List.mem_of_getElem? hx)
      obtain ⟨ad, rfl, _, hc⟩ := (HRD.out.mod' hMr (by simp)) (by intro e; rw [e] at hx; simp at hx)
      obtain ⟨g, rfl, hg⟩ := HGE.out ad rfl
      have cx := hc k x hx
      rw [add_lit, Nat.zero_add] at cx
      obtain ⟨xn, rfl⟩ : ∃ xn : Nat, x = (xn : Int) := ⟨x.toNat, by omega⟩
      have hx6 : xn < 64 := by omega
      have hx6' : (xn : Int) < 64 := by omega
      have hR := H4.out.mod hMr (by simp)
      have d0 := hR.node xn hx6
      have d1 := hR.inc xn hx6
      have d2 := hR.state xn hx6
      obtain ⟨⟨ua, ub, uc⟩, hu⟩ : ∃ u, f xn = u := ⟨_, rfl⟩
      rw [hu] at d0 d1 d2
      have htk : (ks.take (k + 1)).map (fun x : Int => f x.toNat) = (ks.take k).map (fun x : Int => f x.toNat) ++ [(ua, ub, uc)] := by
        rw [List.take_add_one, hx, List.map_append, ← hu]
        rfl
      have hlk : ((ks.take k).map fun x : Int => f x.toNat).length ≤ 1000 := by
        rw [List.length_map, List.length_take]
        have := HK6.out
        omega
      obtain ⟨v', w', hrun, hown', hgr⟩ := upds_push (wr.alloc (.cells #[.int .i64 ua, .int .u64 ub, .int .i64 uc] 55)) w4.heap.size u2 ((ks.take k).map fun x : Int => f x.toNat) wr.heap.size (ua, ub, uc) (ownsRow_mod hrel.1 ((Mod.refl [] wr).alloc _) (by simp)) hlk (heap_new _ _) (by have := hMr.size; simp; omega)
      have HRUN := Lib.hid hrun
      have HREL := Lib.hid (hrel.push hown' hgr)
      have HTK := Lib.hid htk
      clear hrel hMr hc hR hrun hown' hgr htk hlk hu hx
      have hwk : wrap64 ((k : Int) + 1) = (k : Int) + 1 := wrap_small (by omega) (by have := HK6.out; omega)
      go_wp2_with (at_builtin; with_reducible refine wplk_append_run _ rfl (.tmp 15) (.tmp 22) 37 rfl u2 (.slice (some ⟨wr.heap.size, 0, none⟩) 1 1) rfl rfl HRUN.out ?_)
      refine ⟨⟨k + 1, ?_, hlt, ?_⟩, ?_⟩
      · first | rfl | (rw [hwk]; rfl)
      · rw [HTK.out]; exact HREL.out
      · first | exact meas_next hlt | (rw [hwk]; exact meas_next hlt)
    · have hlt' : ¬ (k : Int) < n := by omega
      have hkn' : k = n := Nat.le_antisymm hkn (Nat.le_of_not_lt hlt)
      have htk : ks.take k = ks := by rw [hkn', ← HKB.out.2, List.take_length]
      rw [htk] at hrel
      have HREL := Lib.hid hrel
      clear hrel hMr htk hkn'
      go_wp2_with fail
      go_ret
      have hb : Upds wr w.heap.size _ (ks.map fun x : Int => f x.toNat) := ownsRow_base HREL.out.1 HM4.out.size
      exact ⟨_, rfl, hb, HM4.out.trans HREL.out.2⟩

set_option maxRecDepth 100000 in
set_option maxHeartbeats 4000000 in
theorem live_is (r : Nat) (me has : Int) (f : Nat → Int × Int × Int) (ks : List Int) (w : World) (h : RollAt w r me f has) (ht : Tab w) (hB : Bits has ks) (hk : ks.length ≤ 6) (hkb : ∀ x ∈ ks, 0 ≤ x ∧ x < 6) (hne : ks ≠ []) (hf : ∀ x ∈ ks, f x.toNat = (x, 0, 0)) (ho : orAll ks = has) :
    Calls Tryz.prog 19 #[.pointer (some ⟨r, 0, none⟩)] w fun e w' => e = .returned (.int .u64 has) ∧ Mod [] w w' := by
  obtain ⟨n, hn⟩ : ∃ n, ks.length = n := ⟨_, rfl⟩
  have hn0 : 0 < n := by rw [← hn]; exact List.length_pos_iff.2 hne
  have hmap : (ks.map fun x : Int => f x.toNat) = ks.map fun x : Int => (x, 0, 0) := List.map_congr_left hf
  have HALL := Lib.hid (all_is r me has f ks w h ht hB hk hkb)
  have HKB := Lib.hid (And.intro hkb (And.intro hn (And.intro hk (And.intro hmap ho))))
  have HN0 := Lib.hid hn0
  clear h ht hB hk hkb hne hf ho hn hmap hn0
  go_enter Tryz.func19, Tryz.ntmps19
  go_wp2_with fail
  refine HALL.out.mono ?_
  rintro _ w4 ⟨v, rfl, hU, hM4⟩
  rw [HKB.out.2.2.2.1] at hU
  have hl : (ks.map fun x : Int => ((x, 0, 0) : Int × Int × Int)).length = n := by rw [List.length_map]; exact HKB.out.2.1
  obtain ⟨g, cap, rfl, _, _⟩ := hU.form (by rw [hl]; exact HN0.out)
  rw [hl]
  have HU := Lib.hid (ownsRow_cells hU)
  have HM4 := Lib.hid hM4
  clear hU hM4
  go_wp2_with fail
  go_loopw [2, 8] (fun acc i wr => ∃ k : Nat, i = .int .i64 k ∧ k ≤ n ∧ acc = .int .u64 (orAll (ks.take k)) ∧ Mod [] w4 wr) (fun _ i _ => n - (intOf i).toNat)
  case atStart => exact ⟨0, rfl, Nat.zero_le _, rfl, Mod.refl _ _⟩
  case round =>
    obtain ⟨k, rfl, hkn, rfl, hMr⟩ := hrel
    by_cases hlt : k < n
    · have hlt' : (k : Int) < n := by omega
      obtain ⟨x, hx⟩ : ∃ x, ks[k]? = some x := ⟨_, List.getElem?_eq_getElem (by have := HKB.out.2.1; omega)⟩
      have hxb := HKB.out.1 x (List.mem_of_getElem? hx)
      have hxm : (ks.map fun x : Int => ((x, 0, 0) : Int × Int × Int))[k]? = some (x, 0, 0) := by rw [List.getElem?_map, hx]; rfl
      obtain ⟨a0, a1, a2⟩ := uflat_at _ k _ hxm
      have d0 := hMr.at (HU.out _ _ a0) (by simp)
      have d1 := hMr.at (HU.out _ _ a1) (by simp)
      have d2 := hMr.at (HU.out _ _ a2) (by simp)
      simp only at d0 d1 d2
      obtain ⟨xn, rfl⟩ : ∃ xn : Nat, x = (xn : Int) := ⟨x.toNat, by omega⟩
      have hsn : orAll (ks.take (k + 1)) = bits .or .u64 (orAll (ks.take k)) (2 ^ xn) := by
        rw [List.take_add_one, hx]
        exact orAll_snoc _ _
      obtain ⟨B', hB'⟩ : ∃ B', orAll (ks.take (k + 1)) = B' := ⟨_, rfl⟩
      obtain ⟨A', hA'⟩ : ∃ A', orAll (ks.take k) = A' := ⟨_, rfl⟩
      rw [hB', hA'] at hsn
      rw [hA']
      have HSN := Lib.hid (And.intro hsn (And.intro hB' hxb))
      have HMR := Lib.hid hMr
      clear hMr hxm a0 a1 a2 hx hsn hB' hA' hxb
      have hwk : wrap64 ((k : Int) + 1) = (k : Int) + 1 := wrap_small (by omega) (by have := HKB.out.2; omega)
      have hcn := cell_in (heap_new wr (.cells #[.int .i64 xn, .int .u64 0, .int .i64 0] 55)) (show (#[Value.int .i64 xn, .int .u64 0, .int .i64 0] : Array Value)[0]? = some (.int .i64 xn) from rfl)
      have HCN := Lib.hid hcn
      clear hcn
      go_wp2_with fail
      refine (rlive_is xn 0 0 true (by decide) _).mono ?_
      rintro _ w5 ⟨rfl, hM5⟩
      have hcn := hM5.at HCN.out (by simp)
      have HM5 := Lib.hid ((HMR.out.alloc _).trans hM5)
      clear hM5
      go_wp2_with fail
      refine (with_is A' B' xn (by have := HSN.out.2.2; omega) HSN.out.1.symm _).mono ?_
      rintro _ w6 ⟨rfl, rfl⟩
      go_wp2_with fail
      refine ⟨⟨k + 1, ?_, hlt, by rw [HSN.out.2.1], HM5.out⟩, ?_⟩
      · first | rfl | (rw [hwk]; rfl)
      · first | exact meas_next hlt | (rw [hwk]; exact meas_next hlt)
    · have hlt' : ¬ (k : Int) < n := by omega
      have hkn' : k = n := Nat.le_antisymm hkn (Nat.le_of_not_lt hlt)
      have htk : ks.take k = ks := by rw [hkn', ← HKB.out.2.1, List.take_length]
      rw [htk, HKB.out.2.2.2.2]
      have HMR := Lib.hid hMr
      clear hMr htk hkn'
      go_wp2_with fail
      go_ret
      exact ⟨rfl, HM4.out.trans HMR.out⟩

/-- A roll that knows its nodes calmly: all at 0, live. -/
structure Calm (w : World) (r me : Nat) (has : Nat) (f : Nat → Int × Int × Int) : Prop where
  roll : RollAt w r me f has
  lt : has < 64
  me6 : me < 6
  own : (bits .and .u64 (has : Int) (2 ^ me) != 0) = true
  calm : ∀ k, k < 6 → (bits .and .u64 (has : Int) (2 ^ k) != 0) = true → f k = ((k : Int), 0, 0)
theorem Calm.mod {S : List Nat} {w w' : World} {r me has : Nat} {f : Nat → Int × Int × Int} (h : Calm w r me has f) (hm : Mod S w w') (hs : r ∉ S) : Calm w' r me has f := ⟨h.roll.mod hm hs, h.lt, h.me6, h.own, h.calm⟩
theorem Calm.list {w : World} {r me has : Nat} {f : Nat → Int × Int × Int} (h : Calm w r me has f) : ∃ ks : List Int, Bits (has : Int) ks ∧ ks.length ≤ 6 ∧ (∀ x ∈ ks, 0 ≤ x ∧ x < 6) ∧ ks ≠ [] ∧ (∀ x ∈ ks, f x.toNat = (x, 0, 0)) ∧ orAll ks = has := by
  obtain ⟨ks, h1, h2, h3, h4⟩ := small_bits has h.lt
  refine ⟨ks, h1, h2, fun x hx => ⟨(h3 x hx).1, (h3 x hx).2.1⟩, fun e => ?_, fun x hx => ?_, h4⟩
  · subst e
    have h0 : (has : Int) = 0 := h4.symm
    have := h.own
    rw [h0] at this
    have hm := h.me6
    have h6 : me = 0 ∨ me = 1 ∨ me = 2 ∨ me = 3 ∨ me = 4 ∨ me = 5 := by omega
    rcases h6 with rfl | rfl | rfl | rfl | rfl | rfl <;> exact absurd this (by decide)
  · have h5 := h3 x hx
    have := h.calm x.toNat (by omega) h5.2.2
    rw [this]
    have e : ((x.toNat : Nat) : Int) = x := Int.toNat_of_nonneg h5.1
    rw [e]
theorem clive_is {w : World} {r me has : Nat} {f : Nat → Int × Int × Int} (h : Calm w r me has f) (ht : Tab w) : Calls Tryz.prog 19 #[.pointer (some ⟨r, 0, none⟩)] w fun e w' => e = .returned (.int .u64 has) ∧ Mod [] w w' := by
  obtain ⟨ks, h1, h2, h3, h4, h5, h6⟩ := h.list
  exact live_is r me has f ks w h.roll ht h1 h2 h3 h4 h5 h6

/-- How many bits, of less than 64. -/
def cnt64 (x : Nat) : Nat := x % 2 + x / 2 % 2 + x / 4 % 2 + x / 8 % 2 + x / 16 % 2 + x / 32 % 2

set_option maxRecDepth 100000 in
set_option maxHeartbeats 4000000 in
theorem ones_full (x c : Nat) (h : (x = 3 ∧ c = 2) ∨ (x = 7 ∧ c = 3) ∨ (x = 15 ∧ c = 4) ∨ (x = 31 ∧ c = 5) ∨ (x = 63 ∧ c = 6)) (w : World) : Calls Tryz.prog 64 #[.int .u64 x] w fun e w' => e = .returned (.int .i64 c) ∧ w = w' := by
  rcases h with ⟨rfl, rfl⟩ | ⟨rfl, rfl⟩ | ⟨rfl, rfl⟩ | ⟨rfl, rfl⟩ | ⟨rfl, rfl⟩
  all_goals
    go_enter Tryz.func64, Tryz.ntmps64
    go_wp2_with fail
    go_ret
    exact ⟨ret_int (by kernel_rfl), rfl⟩
theorem many_full (n : Nat) (hn : 2 ≤ n ∧ n ≤ 6) (w : World) : Calls Tryz.prog 18 #[.int .u64 ((2 ^ n - 1 : Nat) : Int)] w fun e w' => e = .returned (.int .i64 n) ∧ w = w' := by
  have h : (2 ^ n - 1 = 3 ∧ n = 2) ∨ (2 ^ n - 1 = 7 ∧ n = 3) ∨ (2 ^ n - 1 = 15 ∧ n = 4) ∨ (2 ^ n - 1 = 31 ∧ n = 5) ∨ (2 ^ n - 1 = 63 ∧ n = 6) := by
    have h6 : n = 2 ∨ n = 3 ∨ n = 4 ∨ n = 5 ∨ n = 6 := by omega
    rcases h6 with rfl | rfl | rfl | rfl | rfl <;> simp
  obtain ⟨x, hx⟩ : ∃ x, 2 ^ n - 1 = x := ⟨_, rfl⟩
  rw [hx] at h ⊢
  have H := Lib.hid (ones_full x n h)
  clear h hx hn
  go_enter Tryz.func18, Tryz.ntmps18
  go_wp2_with fail
  refine (H.out _).mono ?_
  rintro _ w1 ⟨rfl, rfl⟩
  go_wp2_with fail
  go_ret
  exact ⟨rfl, rfl⟩

set_option maxHeartbeats 4000000 in
theorem others_is {r me has : Nat} {f : Nat → Int × Int × Int} (ls : Int) (ks : List Int) (hless : bits .andNot .u64 (has : Int) (2 ^ me) = ls) (hB : Bits ls ks) (hk : ks.length ≤ 64) (w : World) (h : Calm w r me has f) (ht : Tab w) :
    Calls Tryz.prog 51 #[.pointer (some ⟨r, 0, none⟩)] w (BListPost w ks) := by
  have H := Lib.hid h
  have HT := Lib.hid ht
  have HL := Lib.hid (less_is (has : Int) ls me (by have := h.me6; omega) hless)
  have HB := Lib.hid (And.intro hB hk)
  have c0 := h.roll.me
  clear h ht hB hk hless
  go_enter Tryz.func51, Tryz.ntmps51
  go_wp2_with fail
  go_region_held3 (fun w' => w'.cell? ⟨r, 0, none⟩ = some (.int .i64 me)) (first | exact c0 | exact K5.out | exact K6.out) (first | (go_at_call 19; refine (clive_is (H.out.mod (Mod.refl [] w).drew (by simp)) (HT.out.mod (Mod.refl [] w).drew (by simp))).mono ?_; rintro e w5 ⟨rfl, hM5⟩; have HM5 := Lib.hid ((Mod.refl [] w).drew.trans hM5); have HT5 := Lib.hid (HT.out.mod HM5.out (by simp)); have K5 := Lib.hid (HM5.out.at c0 (by simp)); clear hM5) | (go_at_call 105; refine (HL.out _).mono ?_; rintro e w5' ⟨rfl, rfl⟩) | (go_at_call 63; refine (blist_is ls ks HB.out.1 HB.out.2 _ HT5.out).mono ?_; rintro e w6 ⟨v6, rfl, hO6, hM6⟩; have HM6 := Lib.hid (HM5.out.trans hM6); have K6 := Lib.hid (HM6.out.at c0 (by simp)); have HO6 := Lib.hid hO6; clear hM6 hO6))
  go_wp2_with fail
  go_ret
  exact ⟨v6, rfl, ownsRow_base HO6.out HM5.out.size, HM6.out⟩

end Go.Proofs.YtaaaiggbnkeblaaGreatDoor

namespace Go.Proofs.YtaaaiggbnkeblaaGreatDoor
set_option linter.unusedSimpArgs false
set_option linter.unusedVariables false
open Go.RowKit

set_option maxRecDepth 100000 in
set_option maxHeartbeats 4000000 in
theorem icmp_any (k t k' t' : Int) (w : World) :
    Calls Tryz.prog 139 #[.agg #[.int .i64 k, .int .u64 0, .int .i64 0, .int .i64 t], .agg #[.int .i64 k', .int .u64 0, .int .i64 0, .int .i64 t']] w fun e w' => ∃ c : Int, e = .returned (.int .i64 c) ∧ Mod [] w w' := by
  obtain ⟨x, hx⟩ : ∃ x, cmp3 t t' = x := ⟨_, rfl⟩
  obtain ⟨y, hy⟩ : ∃ y, cmp3 k k' = y := ⟨_, rfl⟩
  obtain ⟨c, hc⟩ : ∃ c, or2 x y = c := ⟨_, rfl⟩
  have HX := Lib.hid (cmpi_is t t' x hx)
  have HY := Lib.hid (cmpi_is k k' y hy)
  have HC := Lib.hid hc
  clear hx hy hc
  have hma := (Mod.refl [] w).alloc (.cells #[.int .i64 k, .int .u64 0, .int .i64 0, .int .i64 t] 192)
  have hmb := hma.alloc (.cells #[.int .i64 k', .int .u64 0, .int .i64 0, .int .i64 t'] 192)
  have hr1 := row_mod ((Mod.refl [] (w.alloc (.cells #[.int .i64 k, .int .u64 0, .int .i64 0, .int .i64 t] 192))).alloc (.cells #[.int .i64 k', .int .u64 0, .int .i64 0, .int .i64 t'] 192)) (heap_new w (.cells #[.int .i64 k, .int .u64 0, .int .i64 0, .int .i64 t] 192)) (by simp)
  have hr2 : ((w.alloc (.cells #[.int .i64 k, .int .u64 0, .int .i64 0, .int .i64 t] 192)).alloc (.cells #[.int .i64 k', .int .u64 0, .int .i64 0, .int .i64 t'] 192)).heap[w.heap.size + 1]? = some (.cells #[.int .i64 k', .int .u64 0, .int .i64 0, .int .i64 t'] 192 (0, 0)) := by
    have := heap_new (w.alloc (.cells #[.int .i64 k, .int .u64 0, .int .i64 0, .int .i64 t] 192)) (.cells #[.int .i64 k', .int .u64 0, .int .i64 0, .int .i64 t'] 192)
    simpa using this
  have a0 := cell_in hr1 (show (#[Value.int .i64 k, .int .u64 0, .int .i64 0, .int .i64 t] : Array Value)[0]? = some (.int .i64 k) from rfl)
  have a3 := cell_in hr1 (show (#[Value.int .i64 k, .int .u64 0, .int .i64 0, .int .i64 t] : Array Value)[3]? = some (.int .i64 t) from rfl)
  have b0 := cell_in hr2 (show (#[Value.int .i64 k', .int .u64 0, .int .i64 0, .int .i64 t'] : Array Value)[0]? = some (.int .i64 k') from rfl)
  have b3 := cell_in hr2 (show (#[Value.int .i64 k', .int .u64 0, .int .i64 0, .int .i64 t'] : Array Value)[3]? = some (.int .i64 t') from rfl)
  have HM := Lib.hid hmb
  clear hma hmb hr1 hr2
  go_enter Tryz.func139, Tryz.ntmps139
  go_wp2_with fail
  generalize (w.alloc (.cells #[.int .i64 k, .int .u64 0, .int .i64 0, .int .i64 t] 192)).alloc (.cells #[.int .i64 k', .int .u64 0, .int .i64 0, .int .i64 t'] 192) = W at a0 a3 b0 b3 HM ⊢
  generalize w.heap.size = p at a0 a3 b0 b3 ⊢
  have hnw := heap_new W.drew (.cells #[.int .i64 x, .int .i64 y] 3)
  have HNW := Lib.hid hnw
  have a0' := ((Mod.refl [] W).drew.alloc (.cells #[.int .i64 x, .int .i64 y] 3)).at a0 (by simp)
  have a3' := ((Mod.refl [] W).drew.alloc (.cells #[.int .i64 x, .int .i64 y] 3)).at a3 (by simp)
  have b0' := ((Mod.refl [] W).drew.alloc (.cells #[.int .i64 x, .int .i64 y] 3)).at b0 (by simp)
  have b3' := ((Mod.refl [] W).drew.alloc (.cells #[.int .i64 x, .int .i64 y] 3)).at b3 (by simp)
  clear hnw
  go_region_held3 (fun w' => w'.cell? ⟨p, 0, none⟩ = some (.int .i64 k) ∧ w'.cell? ⟨p, 3, none⟩ = some (.int .i64 t) ∧ w'.cell? ⟨p + 1, 0, none⟩ = some (.int .i64 k') ∧ w'.cell? ⟨p + 1, 3, none⟩ = some (.int .i64 t')) (first | exact ⟨a0, a3, b0, b3⟩ | exact ⟨a0', a3', b0', b3'⟩) ((first | (go_at_call 141; (with_reducible refine (HX.out _).mono ?_); rintro e w5 ⟨rfl, rfl⟩) | (go_at_call 141; (with_reducible refine (HY.out _).mono ?_); rintro e w5 ⟨rfl, rfl⟩) | (go_at_call 140; refine (or2_is W.heap.size x y c HC.out _ HNW.out).mono ?_; rintro e w5 ⟨rfl, rfl⟩)))
  go_wp2_with fail
  go_ret
  exact ⟨c, rfl, by repeat (first | with_reducible exact HM.out | with_reducible refine Mod.drew ?_ | with_reducible refine Mod.alloc ?_ _)⟩

/-- Items that are calm: m of them, in block g. -/
structure ItemsAt (w : World) (g m N : Nat) : Prop where
  cells : ∀ i, i < m → ∃ k t : Nat, k < N ∧ t ≤ 100 ∧ w.cell? ⟨g, i * 4, none⟩ = some (.int .i64 k) ∧ w.cell? ⟨g, i * 4 + 1, none⟩ = some (.int .u64 0) ∧ w.cell? ⟨g, i * 4 + 2, none⟩ = some (.int .i64 0) ∧ w.cell? ⟨g, i * 4 + 3, none⟩ = some (.int .i64 t)
  free : ∀ j, w.frozen? ⟨g, j, none⟩ = false
  lt : g < w.heap.size
theorem ItemsAt.mod {w w' : World} {S : List Nat} {g m N : Nat} (h : ItemsAt w g m N) (hM : Mod S w w') (hs : g ∉ S) : ItemsAt w' g m N := by
  refine ⟨fun i hi => ?_, fun j => (hM.frozen (p := ⟨g, j, none⟩) h.lt hs).trans (h.free j), Nat.lt_of_lt_of_le h.lt hM.size⟩
  obtain ⟨k, t, h1, h2, a, b, c, d⟩ := h.cells i hi
  exact ⟨k, t, h1, h2, hM.at a hs, hM.at b hs, hM.at c hs, hM.at d hs⟩
theorem ItemsAt.drew {w : World} {g m N : Nat} (h : ItemsAt w g m N) : ItemsAt w.drew g m N := ⟨h.cells, h.free, h.lt⟩
/-- One of them is written anew. -/
theorem ItemsAt.set {w : World} {g m N : Nat} (h : ItemsAt w g m N) (i k t : Nat) (hi : i < m) (hk : k < N) (ht : t ≤ 100) :
    ItemsAt ((((w.setCell ⟨g, i * 4, none⟩ (.int .i64 k)).setCell ⟨g, i * 4 + 1, none⟩ (.int .u64 0)).setCell ⟨g, i * 4 + 2, none⟩ (.int .i64 0)).setCell ⟨g, i * 4 + 3, none⟩ (.int .i64 t)) g m N := by
  refine ⟨fun j hj => ?_, fun j => by simp only [World.frozen?_setCell]; exact h.free j, by simpa [World.setCell] using h.lt⟩
  by_cases e : j = i
  · subst e
    obtain ⟨k0, t0, _, _, a, b, c, d⟩ := h.cells j hj
    refine ⟨k, t, hk, ht, ?_, ?_, ?_, ?_⟩
    · rw [cell_set_off _ _ _ _ (by simp), cell_set_off _ _ _ _ (by simp), cell_set_off _ _ _ _ (by simp)]
      exact cell_set_same a
    · rw [cell_set_off _ _ _ _ (by simp), cell_set_off _ _ _ _ (by simp)]
      exact cell_set_same ((cell_set_off _ _ _ _ (by simp)).trans b)
    · rw [cell_set_off _ _ _ _ (by simp)]
      exact cell_set_same ((cell_set_off _ _ _ _ (by simp)).trans ((cell_set_off _ _ _ _ (by simp)).trans c))
    · exact cell_set_same ((cell_set_off _ _ _ _ (by simp)).trans ((cell_set_off _ _ _ _ (by simp)).trans ((cell_set_off _ _ _ _ (by simp)).trans d)))
  · obtain ⟨k0, t0, h1, h2, a, b, c, d⟩ := h.cells j hj
    have off : ∀ x y : Nat, x < 4 → y < 4 → i * 4 + x ≠ j * 4 + y := fun x y hx hy => by omega
    refine ⟨k0, t0, h1, h2, ?_, ?_, ?_, ?_⟩
    · rw [cell_set_off _ _ _ _ (by simp; omega), cell_set_off _ _ _ _ (by simp; omega), cell_set_off _ _ _ _ (by simp; omega), cell_set_off _ _ _ _ (by simp; omega)]; exact a
    · rw [cell_set_off _ _ _ _ (by simp; omega), cell_set_off _ _ _ _ (by simp; omega), cell_set_off _ _ _ _ (by simp; omega), cell_set_off _ _ _ _ (by simp; omega)]; exact b
    · rw [cell_set_off _ _ _ _ (by simp; omega), cell_set_off _ _ _ _ (by simp; omega), cell_set_off _ _ _ _ (by simp; omega), cell_set_off _ _ _ _ (by simp; omega)]; exact c
    · rw [cell_set_off _ _ _ _ (by simp; omega), cell_set_off _ _ _ _ (by simp; omega), cell_set_off _ _ _ _ (by simp; omega), cell_set_off _ _ _ _ (by simp; omega)]; exact d

set_option maxRecDepth 100000 in
set_option maxHeartbeats 8000000 in
theorem isort_items (N g m cap : Nat) (hm : m ≤ 6) (w : World) (h : ItemsAt w g m N) :
    Calls Tryz.prog 242 #[.slice (some ⟨g, 0, none⟩) m cap, .int .i64 0, .int .i64 m, .func (.func 139) #[] #[]] w fun e w' => e = .returned (.tuple #[]) ∧ ItemsAt w' g m N ∧ Mod [g] w w' := by
  have HH := Lib.hid h
  have HM6 := Lib.hid hm
  clear h hm
  go_enter Tryz.func242, Tryz.ntmps242
  go_wp2_with fail
  go_loopw [8] (fun v wr => ∃ i : Nat, v = .int .i64 i ∧ i ≤ m + 1 ∧ ItemsAt wr g m N ∧ Mod [g] w wr) (fun v _ => m + 1 - (intOf v).toNat)
  case atStart => exact ⟨1, rfl, by omega, HH.out, Mod.refl _ _⟩
  case round =>
    obtain ⟨i, rfl, him, hI, hMr⟩ := hrel
    by_cases hlt : i < m
    · have hlt' : (i : Int) < m := by omega
      have HI := Lib.hid (And.intro hI hMr)
      clear hI hMr
      go_wp2_with fail
      go_loopw [9] (fun v wq => ∃ j : Nat, v = .int .i64 j ∧ j < m ∧ ItemsAt wq g m N ∧ Mod [g] w wq) (fun v _ => (intOf v).toNat)
      case atStart => exact ⟨i, rfl, hlt, HI.out.1, HI.out.2⟩
      case round =>
        obtain ⟨j, rfl, hjm, hI, hMr⟩ := hrel
        rcases Nat.eq_zero_or_pos j with rfl | hj0
        · have HI := Lib.hid (And.intro hI hMr)
          clear hI hMr
          go_wp2_with fail
          refine wp_region_held_drew (S := fun _ => True) (by kernel_rfl) trivial (fun hHeld => ?_)
          refine wpAnyH_take (i := 0) (oi := ?oi0) (v := ?v0) ?hi0 (by kernel_rfl) (by kernel_rfl) (by kernel_rfl) ?hq0 ?hy0 (by assumption) ?rest0
          case hi0 => (simp only [List.getElem?_toArray, List.getElem?_cons_succ, List.getElem?_cons_zero]; rfl)
          case hq0 => exact fun _ _ _ h => h
          case hy0 =>
            refine Or.inl ⟨by rfl, ?_⟩
            intro w hSw
            (try dsimp only at hSw)
            go_simp
            try with_reducible rfl
          try simp only [Act.put, List.setIfInBounds_toArray, List.set_cons_zero, List.set_cons_succ]
          refine wpAnyH_take (i := 1) (oi := ?oi1) (v := ?v1) ?hi1 (by kernel_rfl) (by kernel_rfl) (by kernel_rfl) ?hq1 ?hy1 (by assumption) ?rest1
          case hi1 => (simp only [List.getElem?_toArray, List.getElem?_cons_succ, List.getElem?_cons_zero]; rfl)
          case hq1 => exact fun _ _ _ h => h
          case hy1 =>
            refine Or.inl ⟨by rfl, ?_⟩
            intro w hSw
            (try dsimp only at hSw)
            go_simp
            try with_reducible rfl
          try simp only [Act.put, List.setIfInBounds_toArray, List.set_cons_zero, List.set_cons_succ]
          refine wpAnyH_take (i := 2) (oi := ?oi2) (v := ?v2) ?hi2 (by kernel_rfl) (by kernel_rfl) (by kernel_rfl) ?hq2 ?hy2 (by assumption) ?rest2
          case hi2 => (simp only [List.getElem?_toArray, List.getElem?_cons_succ, List.getElem?_cons_zero]; rfl)
          case hq2 => exact fun _ _ _ h => h
          case hy2 =>
            refine Or.inl ⟨by rfl, ?_⟩
            intro w hSw
            (try dsimp only at hSw)
            go_simp
            try with_reducible rfl
          try simp only [Act.put, List.setIfInBounds_toArray, List.set_cons_zero, List.set_cons_succ]
          refine wpAnyH_take (i := 3) (oi := ?oi3) (v := ?v3) ?hi3 (by kernel_rfl) (by kernel_rfl) (by kernel_rfl) ?hq3 ?hy3 (by assumption) ?rest3
          case hi3 => (simp only [List.getElem?_toArray, List.getElem?_cons_succ, List.getElem?_cons_zero]; rfl)
          case hq3 => exact fun _ _ _ h => h
          case hy3 =>
            refine Or.inl ⟨by rfl, ?_⟩
            intro w hSw
            (try dsimp only at hSw)
            go_simp
            try with_reducible rfl
          try simp only [Act.put, List.setIfInBounds_toArray, List.set_cons_zero, List.set_cons_succ]
          refine wpAnyH_take (i := 4) (oi := ?oi4) (v := undef) ?hi4 (by kernel_rfl) (by kernel_rfl) (by kernel_rfl) ?hq4 ?hy4 (by assumption) ?rest4
          case hi4 => (simp only [List.getElem?_toArray, List.getElem?_cons_succ, List.getElem?_cons_zero]; rfl)
          case hq4 => exact fun _ _ _ h => h
          case hy4 => exact Or.inr ⟨by rfl, rfl⟩
          try simp only [Act.put, List.setIfInBounds_toArray, List.set_cons_zero, List.set_cons_succ]
          refine wpAnyH_take (i := 5) (oi := ?oi5) (v := undef) ?hi5 (by kernel_rfl) (by kernel_rfl) (by kernel_rfl) ?hq5 ?hy5 (by assumption) ?rest5
          case hi5 => (simp only [List.getElem?_toArray, List.getElem?_cons_succ, List.getElem?_cons_zero]; rfl)
          case hq5 => exact fun _ _ _ h => h
          case hy5 => exact Or.inr ⟨by rfl, rfl⟩
          try simp only [Act.put, List.setIfInBounds_toArray, List.set_cons_zero, List.set_cons_succ]
          refine wpAnyH_take (i := 6) (oi := ?oi6) (v := undef) ?hi6 (by kernel_rfl) (by kernel_rfl) (by kernel_rfl) ?hq6 ?hy6 (by assumption) ?rest6
          case hi6 => (simp only [List.getElem?_toArray, List.getElem?_cons_succ, List.getElem?_cons_zero]; rfl)
          case hq6 => exact fun _ _ _ h => h
          case hy6 => exact Or.inr ⟨by rfl, rfl⟩
          try simp only [Act.put, List.setIfInBounds_toArray, List.set_cons_zero, List.set_cons_succ]
          refine wpAnyH_take (i := 7) (oi := ?oi7) (v := undef) ?hi7 (by kernel_rfl) (by kernel_rfl) (by kernel_rfl) ?hq7 ?hy7 (by assumption) ?rest7
          case hi7 => (simp only [List.getElem?_toArray, List.getElem?_cons_succ, List.getElem?_cons_zero]; rfl)
          case hq7 => exact fun _ _ _ h => h
          case hy7 => exact Or.inr ⟨by rfl, rfl⟩
          try simp only [Act.put, List.setIfInBounds_toArray, List.set_cons_zero, List.set_cons_succ]
          refine wpAnyH_take (i := 8) (oi := ?oi8) (v := undef) ?hi8 (by kernel_rfl) (by kernel_rfl) (by kernel_rfl) ?hq8 ?hy8 (by assumption) ?rest8
          case hi8 => (simp only [List.getElem?_toArray, List.getElem?_cons_succ, List.getElem?_cons_zero]; rfl)
          case hq8 => exact fun _ _ _ h => h
          case hy8 => exact Or.inr ⟨by rfl, rfl⟩
          try simp only [Act.put, List.setIfInBounds_toArray, List.set_cons_zero, List.set_cons_succ]
          refine wpAnyH_take (i := 9) (oi := ?oi9) (v := undef) ?hi9 (by kernel_rfl) (by kernel_rfl) (by kernel_rfl) ?hq9 ?hy9 (by assumption) ?rest9
          case hi9 => (simp only [List.getElem?_toArray, List.getElem?_cons_succ, List.getElem?_cons_zero]; rfl)
          case hq9 => exact fun _ _ _ h => h
          case hy9 => exact Or.inr ⟨by rfl, rfl⟩
          try simp only [Act.put, List.setIfInBounds_toArray, List.set_cons_zero, List.set_cons_succ]
          refine wpAnyH_take (i := 10) (oi := ?oi10) (v := undef) ?hi10 (by kernel_rfl) (by kernel_rfl) (by kernel_rfl) ?hq10 ?hy10 (by assumption) ?rest10
          case hi10 => (simp only [List.getElem?_toArray, List.getElem?_cons_succ, List.getElem?_cons_zero]; rfl)
          case hq10 => exact fun _ _ _ h => h
          case hy10 => exact Or.inr ⟨by rfl, rfl⟩
          try simp only [Act.put, List.setIfInBounds_toArray, List.set_cons_zero, List.set_cons_succ]
          refine wpAnyH_take (i := 11) (oi := ?oi11) (v := undef) ?hi11 (by kernel_rfl) (by kernel_rfl) (by kernel_rfl) ?hq11 ?hy11 (by assumption) ?rest11
          case hi11 => (simp only [List.getElem?_toArray, List.getElem?_cons_succ, List.getElem?_cons_zero]; rfl)
          case hq11 => exact fun _ _ _ h => h
          case hy11 => exact Or.inr ⟨by rfl, rfl⟩
          try simp only [Act.put, List.setIfInBounds_toArray, List.set_cons_zero, List.set_cons_succ]
          refine wpAnyH_take (i := 12) (oi := ?oi12) (v := undef) ?hi12 (by kernel_rfl) (by kernel_rfl) (by kernel_rfl) ?hq12 ?hy12 (by assumption) ?rest12
          case hi12 => (simp only [List.getElem?_toArray, List.getElem?_cons_succ, List.getElem?_cons_zero]; rfl)
          case hq12 => exact fun _ _ _ h => h
          case hy12 => exact Or.inr ⟨by rfl, rfl⟩
          try simp only [Act.put, List.setIfInBounds_toArray, List.set_cons_zero, List.set_cons_succ]
          refine wpAnyH_take (i := 13) (oi := ?oi13) (v := undef) ?hi13 (by kernel_rfl) (by kernel_rfl) (by kernel_rfl) ?hq13 ?hy13 (by assumption) ?rest13
          case hi13 => (simp only [List.getElem?_toArray, List.getElem?_cons_succ, List.getElem?_cons_zero]; rfl)
          case hq13 => exact fun _ _ _ h => h
          case hy13 => exact Or.inr ⟨by rfl, rfl⟩
          try simp only [Act.put, List.setIfInBounds_toArray, List.set_cons_zero, List.set_cons_succ]
          refine wpAnyH_take (i := 14) (oi := ?oi14) (v := undef) ?hi14 (by kernel_rfl) (by kernel_rfl) (by kernel_rfl) ?hq14 ?hy14 (by assumption) ?rest14
          case hi14 => (simp only [List.getElem?_toArray, List.getElem?_cons_succ, List.getElem?_cons_zero]; rfl)
          case hq14 => exact fun _ _ _ h => h
          case hy14 => exact Or.inr ⟨by rfl, rfl⟩
          try simp only [Act.put, List.setIfInBounds_toArray, List.set_cons_zero, List.set_cons_succ]
          refine wpAnyH_take (i := 15) (oi := ?oi15) (v := undef) ?hi15 (by kernel_rfl) (by kernel_rfl) (by kernel_rfl) ?hq15 ?hy15 (by assumption) ?rest15
          case hi15 => (simp only [List.getElem?_toArray, List.getElem?_cons_succ, List.getElem?_cons_zero]; rfl)
          case hq15 => exact fun _ _ _ h => h
          case hy15 => exact Or.inr ⟨by rfl, rfl⟩
          try simp only [Act.put, List.setIfInBounds_toArray, List.set_cons_zero, List.set_cons_succ]
          refine wpAnyH_take (i := 16) (oi := ?oi16) (v := ?v16) ?hi16 (by kernel_rfl) (by kernel_rfl) (by kernel_rfl) ?hq16 ?hy16 (by assumption) ?rest16
          case hi16 => (simp only [List.getElem?_toArray, List.getElem?_cons_succ, List.getElem?_cons_zero]; rfl)
          case hq16 => exact fun _ _ _ h => h
          case hy16 =>
            refine Or.inl ⟨by rfl, ?_⟩
            intro w hSw
            (try dsimp only at hSw)
            go_simp
            try with_reducible rfl
          try simp only [Act.put, List.setIfInBounds_toArray, List.set_cons_zero, List.set_cons_succ]
          refine wpAnyH_done (by kernel_rfl) ?_ _
          have HI2 := Lib.hid (And.intro (HI.out.1.mod (Mod.refl [] _).drew (by simp)) HI.out.2.drew)
          go_wp2_with fail
          have hwi : wrap64 ((i : Int) + 1) = (i : Int) + 1 := wrap_small (by omega) (by have := HM6.out; omega)
          refine ⟨⟨i + 1, by rw [hwi]; rfl, by omega, HI2.out.1, HI2.out.2⟩, ?_⟩
          rw [hwi]
          exact meas_next (n := m + 1) (by omega)
        · obtain ⟨jj, hjj⟩ : ∃ jj, j = jj + 1 := ⟨j - 1, by omega⟩
          obtain ⟨k, t, hk, ht, a0, a1, a2, a3⟩ := hI.cells j hjm
          obtain ⟨k', t', hk', ht', b0, b1, b2, b3⟩ := hI.cells jj (by omega)
          have hi1 : (0 : Int) < j := by omega
          have hi2 : (j : Int) < m := by omega
          have hi3 : (j : Int) - 1 = jj := by omega
          have hi4 : (0 : Int) ≤ jj := by omega
          have hi5 : (jj : Int) < m := by omega
          have hw : wrap64 (jj : Int) = jj := wrap_small (by omega) (by have := HM6.out; omega)
          have hw2 : IntKind.i64.wrap (jj : Int) = jj := IntWalk.i64_in _ ⟨by omega, by have := HM6.out; omega⟩
          have hw3 : IntKind.i64.wrap ((j : Int) - 1) = jj := by rw [hi3]; exact hw2
          have hw4 : wrap64 ((j : Int) - 1) = jj := by rw [hi3]; exact hw
          have HI := Lib.hid (And.intro hI hMr)
          have HB := Lib.hid (And.intro (And.intro hk ht) (And.intro hk' ht'))
          have HJJ := Lib.hid hjj
          have h00 : 0 < m := by omega
          have hm0 : (0 : Int) ≤ 0 := by omega
          clear hI hMr hk ht hk' ht' hjj
          go_wp2_with fail
          go_region_held3 (fun w' => w'.cell? ⟨g, j * 4, none⟩ = some (.int .i64 k) ∧ w'.cell? ⟨g, j * 4 + 1, none⟩ = some (.int .u64 0) ∧ w'.cell? ⟨g, j * 4 + 2, none⟩ = some (.int .i64 0) ∧ w'.cell? ⟨g, j * 4 + 3, none⟩ = some (.int .i64 t) ∧ w'.cell? ⟨g, jj * 4, none⟩ = some (.int .i64 k') ∧ w'.cell? ⟨g, jj * 4 + 1, none⟩ = some (.int .u64 0) ∧ w'.cell? ⟨g, jj * 4 + 2, none⟩ = some (.int .i64 0) ∧ w'.cell? ⟨g, jj * 4 + 3, none⟩ = some (.int .i64 t')) (first | exact ⟨a0, a1, a2, a3, b0, b1, b2, b3⟩ | exact ⟨HM5.out.at a0 (by simp), HM5.out.at a1 (by simp), HM5.out.at a2 (by simp), HM5.out.at a3 (by simp), HM5.out.at b0 (by simp), HM5.out.at b1 (by simp), HM5.out.at b2 (by simp), HM5.out.at b3 (by simp)⟩) ((go_at_call 139; refine (icmp_any k t k' t' _).mono ?_; rintro e w5 ⟨c, rfl, hM5⟩; have HM5 := Lib.hid ((Mod.refl [] _).drew.trans hM5); clear hM5))
          have hI5 := HI.out.1.mod HM5.out (by simp)
          have HI5 := Lib.hid (And.intro hI5 ((HI.out.2).trans (HM5.out.mono (by simp))))
          clear hI5
          by_cases hc : c < 0
          · replace a0 := HM5.out.at a0 (by simp)
            replace a1 := HM5.out.at a1 (by simp)
            replace a2 := HM5.out.at a2 (by simp)
            replace a3 := HM5.out.at a3 (by simp)
            replace b0 := HM5.out.at b0 (by simp)
            replace b1 := HM5.out.at b1 (by simp)
            replace b2 := HM5.out.at b2 (by simp)
            replace b3 := HM5.out.at b3 (by simp)
            have f0 := HI5.out.1.free (j * 4)
            have f1 := HI5.out.1.free (j * 4 + 1)
            have f2 := HI5.out.1.free (j * 4 + 2)
            have f3 := HI5.out.1.free (j * 4 + 3)
            have e0 := HI5.out.1.free (jj * 4)
            have e1 := HI5.out.1.free (jj * 4 + 1)
            have e2 := HI5.out.1.free (jj * 4 + 2)
            have e3 := HI5.out.1.free (jj * 4 + 3)
            have hjne : ∀ x y : Nat, x < 4 → y < 4 → j * 4 + x ≠ jj * 4 + y := fun x y hx hy => by have := HJJ.out; omega
            have HJN := Lib.hid hjne
            clear hjne HM5
            go_wp2_with fail
            go_region
            have h2 := (HI5.out.1.set j k' t' hjm HB.out.2.1 HB.out.2.2).set jj k t (by have := HJJ.out; omega) HB.out.1.1 HB.out.1.2
            have hM2 : Mod [g] w5 ((((((((w5.setCell ⟨g, j * 4, none⟩ (.int .i64 k')).setCell ⟨g, j * 4 + 1, none⟩ (.int .u64 0)).setCell ⟨g, j * 4 + 2, none⟩ (.int .i64 0)).setCell ⟨g, j * 4 + 3, none⟩ (.int .i64 t')).setCell ⟨g, jj * 4, none⟩ (.int .i64 k)).setCell ⟨g, jj * 4 + 1, none⟩ (.int .u64 0)).setCell ⟨g, jj * 4 + 2, none⟩ (.int .i64 0)).setCell ⟨g, jj * 4 + 3, none⟩ (.int .i64 t)).drew := by
              repeat (first | with_reducible exact Mod.refl _ _ | with_reducible refine Mod.drew ?_ | with_reducible refine Mod.setCell ?_ (.inl (by simp)) _)
            have HF := Lib.hid (And.intro (h2.drew) (HI5.out.2.trans hM2))
            clear h2 hM2 a0 a1 a2 a3 b0 b1 b2 b3 f0 f1 f2 f3 e0 e1 e2 e3
            go_wp2_with fail
            refine ⟨⟨jj, rfl, by have := HJJ.out; omega, HF.out.1, HF.out.2⟩, ?_⟩
            show ((jj : Int)).toNat < ((j : Int)).toNat
            have := HJJ.out
            omega
          · have hc' : ¬ c < 0 := hc
            go_wp2_with fail
            have hwi : wrap64 ((i : Int) + 1) = (i : Int) + 1 := wrap_small (by omega) (by have := HM6.out; omega)
            refine ⟨⟨i + 1, by rw [hwi]; rfl, by omega, HI5.out.1, HI5.out.2⟩, ?_⟩
            rw [hwi]
            exact meas_next (n := m + 1) (by omega)
    · have hlt' : ¬ (i : Int) < m := by omega
      have HI := Lib.hid (And.intro hI hMr)
      clear hI hMr
      go_wp2_with fail
      refine bodyPost_end (results_none rfl _ _ _) rfl ?_
      exact ⟨rfl, HI.out.1, HI.out.2⟩

theorem len_le6 (m : Nat) (h : m ≤ 6) : ∃ b : Int, ∀ w, Calls Tryz.prog 198 #[.int .u64 m] w fun e w' => e = .returned (.int .i64 b) ∧ w = w' := by
  have h2 : m = 0 ∨ m = 1 ∨ ∃ b : Nat, ((m = 2 ∧ b = 2) ∨ (m = 3 ∧ b = 2) ∨ (m = 4 ∧ b = 3) ∨ (m = 5 ∧ b = 3) ∨ (m = 6 ∧ b = 3) ∨ (m = 7 ∧ b = 3)) := by
    have h7 : m = 0 ∨ m = 1 ∨ m = 2 ∨ m = 3 ∨ m = 4 ∨ m = 5 ∨ m = 6 := by omega
    rcases h7 with h | h | h | h | h | h | h
    · exact .inl h
    · exact .inr (.inl h)
    · exact .inr (.inr ⟨2, by omega⟩)
    · exact .inr (.inr ⟨2, by omega⟩)
    · exact .inr (.inr ⟨3, by omega⟩)
    · exact .inr (.inr ⟨3, by omega⟩)
    · exact .inr (.inr ⟨3, by omega⟩)
  rcases h2 with rfl | rfl | ⟨b, hb⟩
  · exact ⟨0, len_zero⟩
  · exact ⟨1, len_one⟩
  · refine ⟨b, fun w => ?_⟩
    have HL := Lib.hid (len64_small m b hb)
    clear hb h
    go_enter Tryz.func198, Tryz.ntmps198
    go_wp2_with fail
    refine (HL.out _).mono ?_
    rintro _ w1 ⟨rfl, rfl⟩
    go_wp2_with fail
    go_ret
    exact ⟨rfl, rfl⟩

set_option maxRecDepth 100000 in
set_option maxHeartbeats 4000000 in
theorem pdq_items (N g m cap : Nat) (b : Int) (hm : m ≤ 6) (w : World) (h : ItemsAt w g m N) :
    Calls Tryz.prog 197 #[.slice (some ⟨g, 0, none⟩) m cap, .int .i64 0, .int .i64 m, .int .i64 b, .func (.func 139) #[] #[]] w fun e w' => e = .returned (.tuple #[]) ∧ ItemsAt w' g m N ∧ Mod [g] w w' := by
  have HS := Lib.hid (isort_items N g m cap hm w h)
  have hm12 : (m : Int) ≤ 12 := by omega
  have hw : wrap64 (m : Int) = m := wrap_small (by omega) (by omega)
  clear h hm
  go_enter Tryz.func197, Tryz.ntmps197
  go_wp2_with fail
  refine wp_loop_rounds 1 ?_
  rw [rounds_succ]
  go_wp2_with fail
  refine HS.out.mono ?_
  rintro _ w1 ⟨rfl, hI, hM⟩
  have HF := Lib.hid (And.intro hI hM)
  clear hI hM
  go_wp2_with fail
  refine bodyPost_ret (results_none rfl _ _ _) rfl ?_
  exact ⟨rfl, HF.out.1, HF.out.2⟩

set_option maxRecDepth 100000 in
set_option maxHeartbeats 4000000 in
theorem sort_items (N g m cap : Nat) (hm : m ≤ 6) (w : World) (h : ItemsAt w g m N) :
    Calls Tryz.prog 138 #[.slice (some ⟨g, 0, none⟩) m cap, .func (.func 139) #[] #[]] w fun e w' => e = .returned (.tuple #[]) ∧ ItemsAt w' g m N ∧ Mod [g] w w' := by
  obtain ⟨b, hb⟩ := len_le6 m hm
  have HL := Lib.hid hb
  have HS := Lib.hid (pdq_items N g m cap b hm w h)
  have hw : IntKind.u64.wrap (m : Int) = m := IntWalk.u64_in _ ⟨by omega, by omega⟩
  clear h hm hb
  go_enter Tryz.func138, Tryz.ntmps138
  go_wp2_with fail
  refine (HL.out _).mono ?_
  rintro _ w1 ⟨rfl, rfl⟩
  go_wp2_with fail
  refine HS.out.mono ?_
  rintro _ w2 ⟨rfl, hI, hM⟩
  have HF := Lib.hid (And.intro hI hM)
  clear hI hM
  go_wp2_with fail
  refine bodyPost_end (results_none rfl _ _ _) rfl ?_
  exact ⟨rfl, HF.out.1, HF.out.2⟩

end Go.Proofs.YtaaaiggbnkeblaaGreatDoor
