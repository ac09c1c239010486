/-
  The walks of conventicleref09: has, Left, Next, Join, Helpers.
-/
import Derived.Test.YtnapboojfhojjaaRefL
import Derived.Test.YtnapboojfhojjaaRndK
namespace Go.Proofs.Ytnapboojfhojjaa
open Go.RowKit

set_option maxHeartbeats 2000000 in
theorem dhas_any (a : Option Addr) (c : Nat) (L : List Int) (v : Int) (w : World) (hr : RdInts .i64 w a L) (hl : L.length ≤ 1000000) :
    Calls Try.prog 23 #[.slice a L.length c, .int .i64 v] w fun e w' => e = .returned (.bool (decide (v ∈ L))) ∧ w = w' := by
  have HR := Lib.hid hr
  clear hr
  go_enter Try.func23, Try.ntmps23
  go_wp2_with fail
  go_loopw [5] (fun u wr => ∃ k : Nat, u = .int .i64 k ∧ k ≤ L.length ∧ v ∉ L.take k ∧ wr = w) (fun u _ => L.length - (intOf u).toNat)
  case atStart => exact ⟨0, rfl, Nat.zero_le _, by simp, rfl⟩
  case round =>
    obtain ⟨k, rfl, hk, hno, rfl⟩ := hrel
    have HNO := Lib.hid hno
    clear hno
    by_cases hlt : (k : Int) < L.length
    · have hlt' : k < L.length := by omega
      obtain ⟨x, hx⟩ : ∃ x, L[k]? = some x := ⟨_, List.getElem?_eq_getElem hlt'⟩
      obtain ⟨ad, rfl, _, hcx⟩ := HR.out (by intro h; rw [h] at hlt'; simp at hlt')
      have cx := hcx k x hx
      have HX := Lib.hid hx
      clear hcx hx
      by_cases hv : v = x
      · have hvq : (x == v) = true := by simpa using hv.symm
        have HV := Lib.hid hv
        clear hv
        go_wp2_with fail
        go_ret
        exact ⟨by rw [decide_eq_true (show v ∈ L by rw [HV.out]; exact List.mem_of_getElem? HX.out)]; rfl, rfl⟩
      · have hvq : (x == v) = false := by simpa using fun e => hv e.symm
        have HV := Lib.hid (not_mem_take HX.out HNO.out hv)
        clear hv
        go_wp2_with fail
        go_roundw
        case rel => exact ⟨k + 1, by go_num, by omega, HV.out, by trivial⟩
        case measure => simp [intOf]; omega
    · obtain rfl : k = L.length := by omega
      go_wp2_with fail
      go_ret
      exact ⟨by rw [List.take_length] at HNO; rw [decide_eq_false HNO.out]; rfl, rfl⟩

theorem dhas_is (a : Option Addr) (c n : Nat) (L : List Int) (v : Int) (b : Bool) (w : World) (hr : RdInts .i64 w a L) (hl : L.length ≤ 1000000) (hn : L.length = n) (hb : decide (v ∈ L) = b) :
    Calls Try.prog 23 #[.slice a n c, .int .i64 v] w fun e w' => e = .returned (.bool b) ∧ w = w' := by
  subst hb
  subst hn
  exact dhas_any a c L v w hr hl

/-- A list that a call made. -/
def MadePost (w : World) (L : List Int) (e : Ending) (w' : World) : Prop := ∃ a c, e = .returned (.slice a L.length c) ∧ RdInts .i64 w' a L ∧ Mod [] w w'

set_option maxHeartbeats 2000000 in
theorem dleft_any (G : List Nat) (r : Nat) (L : List Int) (w : World) (h : RoundAt G w r L) (hl : L.length ≤ 1000000) :
    Calls Try.prog 17 #[.pointer (some ⟨r, 0, none⟩)] w (MadePost w L) := by
  obtain ⟨a, c, h1, hr⟩ := h.rd
  obtain ⟨a', c', h1', _, _, _, hnc, _⟩ := h
  rw [h1] at h1'
  injection h1' with h1'
  injection h1' with e1 _ e2
  subst e1 e2
  have hrl := block_lt_of_cell h1
  have HR := Lib.hid hr
  have NC := Lib.hid hnc
  clear hr hnc
  go_enter Try.func17, Try.ntmps17
  go_wp2_with (at_builtin; with_reducible refine wpList_append_rd rfl _ _ 26 rfl w.heap.size 3 .i64 8 Try.underlying26 Try.info_int (.slice (some ⟨w.heap.size, 0, none⟩) 0 0) [] rfl ?o1 a c L rfl ?o2 ?o3 ?o4 ?o5 ?o6 ?o7)
  case o1 => exact Owned.empty _ (heap_new _ _) (Nat.le_refl _)
  case o2 => exact HR.out.alloc _
  case o3 => exact NC.out
  case o5 => omega
  case o4 => simp [maxLen]; omega
  case o7 =>
    intro v' w2 hO2 hgr _
    have HO2 := Lib.hid hO2
    have HM2 := Lib.hid (grown_ge ((Mod.refl [] w).alloc _) hgr (fun b hb => by simp [Value.ownBlock] at hb; omega))
    clear hO2 hgr
    go_wp2_with fail
    go_ret
    obtain ⟨a2, c2, rfl, r2, _⟩ := HO2.out.shape
    exact ⟨a2, c2, by simp, by simpa using r2, HM2.out⟩

def cellLen (v : Option Value) : Nat := match v with | some (.slice _ n _) => n | _ => 0

def DNextPost (G : List Nat) (w : World) (r d B : Nat) (N : Int × List Int × List Int) (e : Ending) (w' : World) : Prop :=
  e = .returned (.tuple #[.int .i64 N.1, .bool true]) ∧ RoundAt G w' r N.2.1 ∧ RefLots w' d B N.2.2 ∧ Mod [d, r] w w'

set_option maxHeartbeats 4000000 in
theorem dnext_any (G : List Nat) (r d B : Nat) (a : Option Addr) (c : Nat) (xs L ls : List Int) (w : World) (hR : RoundAt G w r L) (hL : RefLots w d B ls) (hx : RdInts .i64 w a xs) (hnc : a = none → c = 0) (hne : xs ≠ []) (hlen : xs.length ≤ 64) (hll : L.length ≤ 1000)
    (hrG : r ∈ G) (hGl : ∀ s ∈ G, s < w.heap.size) (hrd : r ≠ d) (hBr : B ≤ r) (hax : ∀ ad, a = some ad → ad.block ≠ r ∧ ad.block ≠ d) :
    Calls Try.prog 8 #[.pointer (some ⟨r, 0, none⟩), .slice a xs.length c, .pointer (some ⟨d, 0, none⟩)] w (DNextPost G w r d B (rNext L xs ls)) := by
  have hp : 0 < xs.length := List.length_pos_iff.2 hne
  have hnz : ((xs.length : Int) == 0) = false := by simp; omega
  have HX := Lib.hid hx
  have NC := Lib.hid hnc
  have HL := Lib.hid hL
  have HR := Lib.hid hR
  have HG := Lib.hid hGl
  have HRG := Lib.hid hrG
  have HAX := Lib.hid hax
  clear hx hnc hL hR hGl hrG hax
  go_enter Try.func8, Try.ntmps8
  go_wp2_with fail
  go_loopw [] (fun wr => ∃ L', RoundAt G wr r L' ∧ rDrop xs L' = rDrop xs L ∧ L'.length ≤ L.length ∧ RefLots wr d B ls ∧ Mod [r] w wr) (fun wr => cellLen (wr.cell? ⟨r, 0, none⟩))
  case atStart => exact ⟨L, HR.out, rfl, Nat.le_refl _, HL.out, Mod.refl _ _⟩
  case round =>
    obtain ⟨L', hR, hD, hl, hRf, hM⟩ := hrel
    obtain ⟨ra, rc, q1, q2, q3, q4, q5, q6, q7⟩ := hR
    have HRf := Lib.hid hRf
    have HM := Lib.hid hM
    have HD := Lib.hid hD
    have Q3 := Lib.hid (And.intro q3 (And.intro q4 (And.intro q5 q6)))
    have HXR := Lib.hid (HX.out.mod hM (fun ad h => by simpa using (HAX.out ad h).1))
    cases L' with
    | nil =>
      have hrt : wr.cell? ⟨r, 0, none⟩ = some (.slice ra 0 rc) := q1
      have HMS := Lib.hid hM.size
      have HRN := Lib.hid (show rNext L xs ls = ((shufOut xs ls).headD 0, (shufOut xs ls).tail, shufLots xs ls) by unfold rNext; rw [← hD, if_pos (show rDrop xs [] = [] from rfl)])
      clear hRf hM hD q3 q4 q5 q6 q7 hrt
      go_wp2_with fail
      refine (kshuffle_any d B a c xs ls _ HXR.out NC.out (by omega) HRf.out).mono ?_
      rintro e w1 ⟨g', c', rfl, hc', hcm, hg', hO, hRf1, hM1⟩
      have hlen' := shufOut_length xs ls
      obtain ⟨x, hx⟩ : ∃ x, (shufOut xs ls).getD 0 0 = x := ⟨_, rfl⟩
      have hcx := hO.cell (j := 0) (by omega)
      rw [hx] at hcx
      obtain ⟨m, hm⟩ : ∃ m, xs.length = m := ⟨_, rfl⟩
      rw [hm] at hc' hlen' hp hlen hnz ⊢
      have r1 : w1.cell? ⟨r, 0, none⟩ = some (.slice ra 0 rc) := (hM1.cell Q3.out.2.2.2 (by simpa using hrd)).trans q1
      have r2 : w1.frozen? ⟨r, 0, none⟩ = false := (hM1.frozen Q3.out.2.2.2 (by simpa using hrd)).trans q2
      have hrg' : r ≠ g' := by have := Q3.out.2.2.2; omega
      have hset : (w1.setCell ⟨r, 0, none⟩ (.slice (some ⟨g', 0, none⟩) m c')).cell? ⟨g', 0, none⟩ = some (.int .i64 x) := (cell_set_far _ _ _ _ (by simpa using hrg')).trans hcx
      have hset0 := cell_set_same (v := .slice (some ⟨g', 0, none⟩) m c') r1
      have HX0 := Lib.hid hx
      have HO := Lib.hid hO
      have HRf1 := Lib.hid hRf1
      have HM1 := Lib.hid hM1
      have HLN := Lib.hid hlen'
      have HGG := Lib.hid (And.intro hg' hrg')
      have HMN := Lib.hid hm
      have hcmx : c' ≤ 9223372036854775807 := by simpa [maxLen] using hcm
      clear hx hO hRf1 hM1 hlen' hg' hcx hm hcm
      by_cases hc1 : c' = 1
      all_goals try (subst hc1; obtain rfl : m = 1 := by omega)
      all_goals
        go_wp2_with fail
        go_ret2
        have hsx : (shufOut xs ls).headD 0 = x := by rw [← HX0.out]; cases shufOut xs ls <;> rfl
        rw [HRN.out, hsx]
        refine ⟨rfl, ?_, (HRf1.out.mod (((Mod.refl [r] w1).setCell (.inl (by simp)) _).setCell (.inl (by simp)) _) (by simpa using Ne.symm hrd) (by simpa using hBr)), ((HM.out.mono (T := [d, r]) (fun k _ hk => by simp at hk; simp [hk])).trans (HM1.out.mono (fun k _ hk => by simp at hk; simp [hk])) |>.setCell (.inl (by simp)) _ |>.setCell (.inl (by simp)) _)⟩
        rw [← List.drop_one]
        refine round_put (g := g') (off := 0) (k := 1) (L := shufOut xs ls) hset0 (by rw [World.frozen?_setCell]; exact r2) HRG.out (fun h => by have := HG.out _ h; have := HGG.out.1; have := HMS.out; omega) (by have := HO.out.lt; simpa [World.setCell] using this) (by have := HM1.out.size; have := Q3.out.2.2.2; simp [World.setCell]; omega)
          (fun j y hj => (cell_set_far _ _ _ _ (by simpa using HGG.out.2)).trans (by rw [Nat.zero_add]; have hjl := (List.getElem?_eq_some_iff.1 hj).1; rw [HO.out.cell hjl]; simp [List.getD, hj])) (by rw [List.length_drop, HLN.out]) (by omega) (by first | (simp [maxLen]; done) | (simp [maxLen]; omega)) (by simp) ?_
        intro h
        first | rfl | omega
    | cons y L' =>
      obtain ⟨g, off, rfl, hg, hlt, hc⟩ := q7 (by simp)
      have cy := hc 0 y rfl
      simp only [Nat.add_zero] at cy
      have HC := Lib.hid hc
      have HG2 := Lib.hid (And.intro hg hlt)
      have HMS := Lib.hid hM.size
      clear hRf hM hD q3 q4 q5 q6 q7 hc hg hlt
      obtain ⟨n, hn⟩ : ∃ n, xs.length = n := ⟨_, rfl⟩
      have HN := Lib.hid hn
      obtain ⟨m, hm⟩ : ∃ m, L'.length = m := ⟨_, rfl⟩
      have HMM := Lib.hid hm
      simp only [List.length_cons] at q1 hl Q3
      rw [hm] at q1 hl Q3
      rw [hn] at hp hnz hlen ⊢
      have hrcm : rc ≤ 9223372036854775807 := by simpa [maxLen] using Q3.out.2.1
      have hmrc : m + 1 ≤ rc := Q3.out.1
      clear hn hm
      have hput : ∀ (u : Option Addr), (m ≠ 0 → u = some ⟨g, off + 1, none⟩) → ∀ c', c' = rc - 1 → (u = none → c' = 0) → RoundAt G (wr.setCell ⟨r, 0, none⟩ (.slice u m c')) r L' := by
        intro u hu c' hc' hu0
        subst hc'
        have h1 := round_put (G := G) (w := wr) (r := r) (g := g) (off := off) (n := m) (c := rc - 1) (k := 1) (L := y :: L') (a := u) q1 q2 HRG.out HG2.out.1 HG2.out.2 Q3.out.2.2.2 HC.out (by simpa using HMM.out) (by omega) (by simp [maxLen]; omega) hu0 hu
        simpa using h1
      have HPUT := Lib.hid hput
      clear hput
      by_cases hy : y ∈ xs
      · have HRN := Lib.hid (show rNext L xs ls = (y, L', ls) by unfold rNext; rw [← HD.out]; simp [rDrop, hy])
        have HY := Lib.hid hy
        clear hy
        go_wp2_with fail
        refine (dhas_is a c n xs y true _ HXR.out (by have := HN.out; omega) HN.out (decide_eq_true HY.out)).mono ?_
        rintro e w1 ⟨rfl, rfl⟩
        by_cases hc1 : rc = 1
        · subst hc1
          obtain rfl : m = 0 := by omega
          have hP := HPUT.out (some ⟨g, off, none⟩) (fun h => absurd rfl h) 0 rfl (fun h => by cases h)
          go_wp2_with fail
          go_ret2
          rw [HRN.out]
          exact ⟨rfl, hP, HRf.out.mod ((Mod.refl [r] wr).setCell (.inl (by simp)) _) (by simpa using Ne.symm hrd) (by simpa using hBr), (HM.out.mono (T := [d, r]) (fun k _ hk => by simp at hk; simp [hk])).setCell (.inl (by simp)) _⟩
        · have hP := HPUT.out (some ⟨g, off + 1, none⟩) (fun _ => rfl) (rc - 1) rfl (fun h => by cases h)
          go_wp2_with fail
          go_ret2
          rw [HRN.out]
          exact ⟨rfl, hP, HRf.out.mod ((Mod.refl [r] wr).setCell (.inl (by simp)) _) (by simpa using Ne.symm hrd) (by simpa using hBr), (HM.out.mono (T := [d, r]) (fun k _ hk => by simp at hk; simp [hk])).setCell (.inl (by simp)) _⟩
      · have HDD := Lib.hid (show rDrop xs L' = rDrop xs L by rw [← HD.out]; simp [rDrop, hy])
        have HY := Lib.hid hy
        clear hy
        go_wp2_with fail
        refine (dhas_is a c n xs y false _ HXR.out (by have := HN.out; omega) HN.out (decide_eq_false HY.out)).mono ?_
        rintro e w1 ⟨rfl, rfl⟩
        by_cases hc1 : rc = 1
        · subst hc1
          obtain rfl : m = 0 := by omega
          have hP := HPUT.out (some ⟨g, off, none⟩) (fun h => absurd rfl h) 0 rfl (fun h => by cases h)
          have hRfS := HRf.out.mod ((Mod.refl [r] wr).setCell (p := ⟨r, 0, none⟩) (.inl (by simp)) (.slice (some ⟨g, off, none⟩) 0 0)) (by simpa using Ne.symm hrd) (by simpa using hBr)
          have hMS := HM.out.setCell (p := ⟨r, 0, none⟩) (.inl (by simp)) (.slice (some ⟨g, off, none⟩) 0 0)
          have hLM : L'.length ≤ L.length := by rw [HMM.out]; omega
          go_wp2_with fail
          go_roundw
          case rel => exact ⟨L', hP, HDD.out, hLM, hRfS, hMS⟩
          case measure => rw [cell_set_same q1, q1]; simp [cellLen]
        · have hP := HPUT.out (some ⟨g, off + 1, none⟩) (fun _ => rfl) (rc - 1) rfl (fun h => by cases h)
          have hRfS := HRf.out.mod ((Mod.refl [r] wr).setCell (p := ⟨r, 0, none⟩) (.inl (by simp)) (.slice (some ⟨g, off + 1, none⟩) m (rc - 1))) (by simpa using Ne.symm hrd) (by simpa using hBr)
          have hMS := HM.out.setCell (p := ⟨r, 0, none⟩) (.inl (by simp)) (.slice (some ⟨g, off + 1, none⟩) m (rc - 1))
          have hLM : L'.length ≤ L.length := by rw [HMM.out]; omega
          go_wp2_with fail
          go_roundw
          case rel => exact ⟨L', hP, HDD.out, hLM, hRfS, hMS⟩
          case measure => rw [cell_set_same q1, q1]; simp [cellLen]

end Go.Proofs.Ytnapboojfhojjaa
