/-
  The walks of conventicleref09: Join, Helpers.
-/
import Derived.Test.YtnapboojfhojjaaRndZ
namespace Go.Proofs.Ytnapboojfhojjaa
open Go.RowKit

def DJoinPost (G : List Nat) (w : World) (r d B : Nat) (L ls : List Int) (y : Int) (e : Ending) (w' : World) : Prop :=
  e = .returned (.tuple #[]) ∧ RoundAt G w' r (joinL L y ls) ∧ RefLots w' d B (joinR L y ls) ∧ Mod [d, r] w w'

theorem add_add (ad : Addr) (k j : Nat) : (ad.add k).add j = ad.add (k + j) := by
  unfold Addr.add
  by_cases hk : k = 0
  · subst hk; simp
  · by_cases hj : j = 0
    · subst hj; simp
    · rw [if_neg hj, if_neg hk, if_neg (by omega)]
      simp [Nat.add_assoc]

theorem RdInts.back {k : IntKind} {w : World} {ad : Addr} {xs : List Int} (h : RdInts k w (some ad) xs) (m : Nat) : RdInts k w (some (ad.add m)) (xs.drop m) := by
  intro h0
  obtain ⟨ad', e, hb, hc⟩ := h (by intro hx; subst hx; simp at h0)
  cases e
  refine ⟨_, rfl, by rw [add_block]; exact hb, fun j x hj => ?_⟩
  rw [add_add]
  exact hc (m + j) x (by rw [List.getElem?_drop] at hj; exact hj)

/-- 'append(out, l...)', l's length by its number. -/
theorem wpList_append_is {P : Program} {w : World} {ops : Array Oper} {rest : List Oper} {o : Oper} {a : Act} {Q : Exit → Act → World → Prop} (hgd : o.guard = none) (s x : Operand) (t : TypeId)
    (ho : o.op = .call { callee := .builtin .append, args := #[s, x], argTypes := #[t, t] })
    (B : Nat) (e : TypeId) (k : IntKind) (bytes : Nat) (ht : P.underlying t = some (.slice e)) (hinfo : (P.info? e).map (fun i => (i.zero, i.size, i.bytes)) = some (some (.int k 0), 1, bytes))
    (v : Value) (xs : List Int) (hs : a.eval s = v) (hown : Owned k e w B v xs) (sp : Option Addr) (n c : Nat) (ys : List Int) (hx : a.eval x = .slice sp n c) (hn : ys.length = n) (hr : RdInts k w sp ys) (hnc : sp = none → c = 0)
    (h63 : xs.length + n ≤ maxLen) (hbytes : (xs.length + n) * bytes ≤ 140737488355328) (hB : B ≤ w.heap.size)
    (h : ∀ v' w', Owned k e w' B v' (xs ++ ys) → w.grownBy w' v.ownBlock → (v'.ownBlock = v.ownBlock ∨ v'.ownBlock = some w.heap.size) → wpList P ops Q rest (a.put o.dst v') w') :
    wpList P ops Q (o :: rest) a w := by
  subst hn
  exact wpList_append_rd hgd s x t ho B e k bytes ht hinfo v xs hs hown sp c ys hx hr hnc h63 hbytes hB h

theorem nc_some {ad : Addr} {c : Nat} : some ad = none → c = 0 := fun h => by cases h
theorem nc_nil : (none : Option Addr) = none → 0 = 0 := fun _ => rfl
theorem round_own {G : List Nat} {w : World} {r B : Nat} {xs : List Int} {v u : Value} (hO : Owned .i64 3 w B v xs) (h1 : w.cell? ⟨r, 0, none⟩ = some u) (h2 : w.frozen? ⟨r, 0, none⟩ = false) (h6 : r < w.heap.size) (hr : r ∈ G) (hG : ∀ s ∈ G, s < B) :
    RoundAt G (w.setCell ⟨r, 0, none⟩ v) r xs := by
  obtain ⟨a, c, rfl, hrd, hnc, hlc, hcm, hown⟩ := hO.shape
  refine ⟨a, c, cell_set_same h1, by rw [World.frozen?_setCell]; exact h2, hlc, hcm, hnc, by simpa [World.setCell] using h6, fun hne => ?_⟩
  obtain ⟨ad, rfl, hlt, hc⟩ := hrd hne
  obtain ⟨g, rfl, hB⟩ := hown ad rfl
  have hgG : g ∉ G := fun h => by have := hG g h; omega
  refine ⟨g, 0, rfl, hgG, by simpa [World.setCell] using hlt, fun j x hj => ?_⟩
  rw [cell_set_far _ _ _ _ (by intro e; simp at e; rw [← e] at hgG; exact hgG hr)]
  have := hc j x hj
  rwa [add_lit] at this

set_option maxHeartbeats 4000000 in
theorem djoin_any (G : List Nat) (r d B : Nat) (y : Int) (L ls : List Int) (w : World) (hR : RoundAt G w r L) (hL : RefLots w d B ls) (hl : L.length ≤ 1000) (hrG : r ∈ G) (hdG : d ∈ G) (hGl : ∀ s ∈ G, s < w.heap.size) (hrd : r ≠ d) (hBr : B ≤ r) :
    Calls Try.prog 10 #[.pointer (some ⟨r, 0, none⟩), .int .i64 y, .pointer (some ⟨d, 0, none⟩)] w (DJoinPost G w r d B L ls y) := by
  have HR := Lib.hid hR
  obtain ⟨ra, rc, q1, q2, q3, q4, q5, q6, q7⟩ := hR
  have hrdL : RdInts .i64 w ra L := fun h0 => by
    obtain ⟨g, off, rfl, _, hlt, hc⟩ := q7 h0
    exact ⟨_, rfl, hlt, fun j x hj => by rw [add_lit]; exact hc j x hj⟩
  have hrdG : L ≠ [] → ∃ g off, ra = some ⟨g, off, none⟩ ∧ g ∉ G := fun h0 => by
    obtain ⟨g, off, e, h, _, _⟩ := q7 h0
    exact ⟨g, off, e, h⟩
  obtain ⟨n, hn⟩ : ∃ n, L.length = n := ⟨_, rfl⟩
  have hcon := dhas_any ra rc L y w hrdL (by omega)
  rw [hn] at hcon q1 hl q3
  have HL := Lib.hid hL
  have HCON := Lib.hid hcon
  have HN := Lib.hid hn
  have HG := Lib.hid hGl
  have HRG := Lib.hid (And.intro hrG hdG)
  have HRD := Lib.hid hrdL
  have HRQ := Lib.hid hrdG
  have Q7 := Lib.hid q7
  have Q5 := Lib.hid q5
  clear hL hcon hrdL hn hGl hrG hdG q7 hrdG q5
  by_cases hy : y ∈ L
  · have HY := Lib.hid hy
    clear hy
    go_enter Try.func10, Try.ntmps10
    go_wp2_with fail
    refine HCON.out.mono ?_
    rintro e w1 ⟨rfl, rfl⟩
    rw [decide_eq_true HY.out]
    go_wp2_with fail
    refine bodyPost_ret (results_none rfl _ _ _) rfl ?_
    refine ⟨rfl, ?_, ?_, Mod.refl _ _⟩
    · unfold joinL; rw [if_pos HY.out]; exact HR.out
    · unfold joinR; rw [if_pos HY.out]; exact HL.out
  · have HY := Lib.hid hy
    clear hy
    obtain ⟨k, hk⟩ : ∃ k, joinK L ls = k := ⟨_, rfl⟩
    have hkb := lotBelow_range ls ((L.length : Int) + 1)
    have hkn : k ≤ n := by have := hkb.2 (by omega); have := HN.out; unfold joinK at hk; omega
    have HKI := Lib.hid (show lotBelow ls ((n : Int) + 1) = (k : Int) by have := hkb.1; rw [← HN.out, ← hk]; unfold joinK; omega)
    have HK := Lib.hid hk
    have hw1 : wrap64 ((n : Int) + 1) = (n : Int) + 1 := wrap_small (by omega) (by omega)
    have hrcm : rc ≤ 9223372036854775807 := by simpa [maxLen] using q4
    clear hk hkb q4
    go_enter Try.func10, Try.ntmps10
    go_wp2_with fail
    refine HCON.out.mono ?_
    rintro e w1 ⟨rfl, rfl⟩
    rw [decide_eq_false HY.out]
    go_wp2_with fail
    refine (kbelow_is d B ls ((n : Int) + 1) ((n : Int) + 1) k _ HL.out (by omega) rfl HKI.out).mono ?_
    rintro e w2 ⟨rfl, hL2, hM2⟩
    have r1 := (hM2.cell q6 (by simpa using hrd)).trans q1
    have r2 := (hM2.frozen q6 (by simpa using hrd)).trans q2
    have r6 := Nat.lt_of_lt_of_le q6 hM2.size
    have hrd2 : RdInts .i64 w2 ra L := fun h0 => by
      obtain ⟨g, off, e1, hgG⟩ := HRQ.out h0
      exact (HRD.out.mod hM2 (fun ad had => by rw [e1] at had; injection had with had; rw [← had]; simp; exact fun e => hgG (by rw [e]; exact HRG.out.2))) h0
    have HRD2 := Lib.hid hrd2
    have HL2 := Lib.hid hL2
    have HM2 := Lib.hid hM2
    have htk : (L.take k).length = k := by rw [List.length_take, HN.out]; omega
    have hdk : (L.drop k).length = n - k := by rw [List.length_drop, HN.out]
    have hdl : w.heap.size ≤ w2.heap.size := hM2.size
    clear hL2 hM2 q1 q2 hrd2
    cases ra with
    | none =>
      obtain rfl := Q5.out rfl
      obtain rfl : n = 0 := by omega
      obtain rfl : k = 0 := by omega
      have hdk : (L.drop 0).length = 0 := hdk
      obtain ⟨X, hX⟩ : ∃ X, L.take 0 = X := ⟨_, rfl⟩
      obtain ⟨Y, hY⟩ : ∃ Y, L.drop 0 = Y := ⟨_, rfl⟩
      have HXY := Lib.hid (And.intro hX hY)
      have e2 := Lib.hid ((HRD2.out.alloc (.cells #[] 3)).take 0)
      have HRDB : ∀ w4, Mod [] w2 w4 → RdInts .i64 w4 none Y := by
        intro w4 hM4
        have HRD4 := Lib.hid (HRD2.out.mod hM4 (by simp))
        rw [← hY]
        exact (by rw [show L.drop 0 = [] from List.eq_nil_of_length_eq_zero hdk]; exact fun h => absurd rfl h)
      rw [hX] at htk e2
      rw [hY] at hdk
      clear hX hY
      have HRDB := Lib.hid HRDB
      have HTK := Lib.hid htk
      have HDK := Lib.hid hdk
      have b1 := Lib.hid (show ([] : List Int).length + 0 ≤ maxLen from by unfold maxLen; simp <;> omega)
      have b2 := Lib.hid (show (([] : List Int).length + 0) * 8 ≤ 140737488355328 from by simp <;> omega)
      have b3 := Lib.hid (show X.length + 1 ≤ maxLen from by rw [htk]; unfold maxLen; omega)
      have b4 := Lib.hid (show (X.length + 1) * 8 ≤ 140737488355328 from by rw [htk]; omega)
      have hl4 : (X ++ [y]).length = 0 + 1 := by simp [htk]
      have b5 := Lib.hid (show (X ++ [y]).length + 0 ≤ maxLen from by rw [hl4]; unfold maxLen; omega)
      have b6 := Lib.hid (show ((X ++ [y]).length + 0) * 8 ≤ 140737488355328 from by rw [hl4]; omega)
      have b7 := Lib.hid (show w2.heap.size ≤ (w2.alloc (.cells #[] 3)).heap.size from by simp)
      have e1 := Lib.hid (Owned.empty .i64 (heap_new w2 (.cells #[] 3)) (Nat.le_refl w2.heap.size))
      go_wp2_with (at_builtin; go_loud (with_reducible refine wpList_append_is rfl _ _ 26 rfl w2.heap.size 3 .i64 8 Try.underlying26 Try.info_int (.slice (some ⟨w2.heap.size, 0, none⟩) 0 0) [] rfl e1.out none 0 0 X rfl HTK.out e2.out nc_nil b1.out b2.out b7.out ?o7))
      case o7 =>
        intro v3 w3 hO3 hgr3 _
        have HO3 := Lib.hid (show Owned .i64 3 w3 w2.heap.size v3 X by simpa using hO3)
        have HM3 := Lib.hid (grown_ge ((Mod.refl [] w2).alloc _) hgr3 (fun b hb => by simp [Value.ownBlock] at hb; omega))
        have HS3 := Lib.hid HM3.out.size
        have e3 := Lib.hid (HO3.out.mod ((Mod.refl [] w3).alloc (.cells #[.int .i64 y] 3)) (by simp))
        have e4 := Lib.hid (show RdInts .i64 (w3.alloc (.cells #[.int .i64 y] 3)) (some ⟨w3.heap.size, 0, none⟩) [y] from RdInts.of_row (heap_new w3 _))
        have b8 := Lib.hid (show w2.heap.size ≤ (w3.alloc (.cells #[.int .i64 y] 3)).heap.size from by have := HS3.out; simp; omega)
        clear hO3 hgr3 e1 e2
        go_wp2_with (at_builtin; go_loud (with_reducible refine wpList_append_is rfl _ _ 26 rfl w2.heap.size 3 .i64 8 Try.underlying26 Try.info_int v3 X rfl e3.out (some ⟨w3.heap.size, 0, none⟩) 1 1 [y] rfl rfl e4.out nc_some b3.out b4.out b8.out ?p7))
        case p7 =>
          intro v4 w4 hO4 hgr4 _
          have HO4 := Lib.hid hO4
          have hM4 : Mod [] w2 w4 := grown_ge (HM3.out.alloc _) hgr4 (fun b hb => (HO3.out.own_ge b hb).1)
          have HM4 := Lib.hid hM4
          have s1 := (hM4.cell r6 (by simp)).trans r1
          have s2 := (hM4.frozen r6 (by simp)).trans r2
          have s6 := Nat.lt_of_lt_of_le r6 hM4.size
          have hS4 : w2.heap.size ≤ w4.heap.size := hM4.size
          have HS4 := Lib.hid hS4
          have e5 := Lib.hid (show RdInts .i64 w4 none (Y) from HRDB.out _ hM4)
          clear hO4 hgr4 hM4 r1 r2 e3 e4
          go_wp2_with (at_builtin; go_loud (with_reducible refine wpList_append_is rfl _ _ 26 rfl w2.heap.size 3 .i64 8 Try.underlying26 Try.info_int v4 (X ++ [y]) rfl HO4.out none 0 0 (Y) rfl HDK.out e5.out nc_nil b5.out b6.out HS4.out ?q7))
          case q7 =>
            intro v5 w5 hO5 hgr5 _
            obtain ⟨a5, m5, c5, rfl⟩ : ∃ a5 m5 c5, v5 = .slice a5 m5 c5 := by
              obtain ⟨a5, c5, e5, _⟩ := hO5.shape
              exact ⟨a5, _, c5, e5⟩
            have HO5 := Lib.hid hO5
            have hM5 : Mod [] w2 w5 := grown_ge HM4.out hgr5 (fun b hb => (HO4.out.own_ge b hb).1)
            have HM5 := Lib.hid hM5
            have hS5 : w2.heap.size ≤ w5.heap.size := hM5.size
            have t1 : w5.cell? ⟨r, 0, none⟩ = some (.slice none 0 0) := by rw [hM5.cell (by exact r6) (by simp)]; rw [← HM4.out.cell (by exact r6) (by simp)]; exact s1
            have t2 : w5.frozen? ⟨r, 0, none⟩ = false := by rw [hM5.frozen (by exact r6) (by simp)]; rw [← HM4.out.frozen (by exact r6) (by simp)]; exact s2
            clear hO5 hgr5 s1 s2 hM5
            go_wp2_with fail
            refine bodyPost_end (results_none rfl _ _ _) rfl ?_
            have hJL : joinL L y ls = X ++ y :: Y := by rw [← HXY.out.1, ← HXY.out.2]; unfold joinL; rw [if_neg HY.out, HK.out]; simp [insAt]
            have hJR : joinR L y ls = lotRest ls ((0 : Nat) + 1) := by unfold joinR; rw [if_neg HY.out, HN.out]
            unfold DJoinPost
            rw [hJL, hJR]
            have hO6 : Owned .i64 3 w5 w2.heap.size (.slice a5 m5 c5) (X ++ y :: Y) := by simpa using HO5.out
            exact ⟨rfl, round_own hO6 t1 t2 (by omega) HRG.out.1 (fun s hs => by have := HG.out s hs; omega), (HL2.out.mod HM5.out (by simp) (by simp)).mod ((Mod.refl [r] w5).setCell (.inl (by simp)) _) (by simpa using Ne.symm hrd) (by simpa using hBr), ((HM2.out.mono (T := [d, r]) (fun q _ hq => by simp at hq; simp [hq])).trans (HM5.out.mono (by simp))).setCell (.inl (by simp)) _⟩
    | some ad =>
      by_cases hc1 : rc = k
      · subst hc1
        obtain rfl : n = rc := by omega
        have hdk : (L.drop n).length = 0 := by rw [hdk]; omega
        obtain ⟨X, hX⟩ : ∃ X, L.take n = X := ⟨_, rfl⟩
        obtain ⟨Y, hY⟩ : ∃ Y, L.drop n = Y := ⟨_, rfl⟩
        have HXY := Lib.hid (And.intro hX hY)
        have e2 := Lib.hid ((HRD2.out.alloc (.cells #[] 3)).take n)
        have HRDB : ∀ w4, Mod [] w2 w4 → RdInts .i64 w4 (some ad) Y := by
          intro w4 hM4
          have HRD4 := Lib.hid (HRD2.out.mod hM4 (by simp))
          rw [← hY]
          exact (by rw [show L.drop n = [] from List.eq_nil_of_length_eq_zero hdk]; exact fun h => absurd rfl h)
        rw [hX] at htk e2
        rw [hY] at hdk
        clear hX hY
        have HRDB := Lib.hid HRDB
        have HTK := Lib.hid htk
        have HDK := Lib.hid hdk
        have b1 := Lib.hid (show ([] : List Int).length + n ≤ maxLen from by unfold maxLen; simp <;> omega)
        have b2 := Lib.hid (show (([] : List Int).length + n) * 8 ≤ 140737488355328 from by simp <;> omega)
        have b3 := Lib.hid (show X.length + 1 ≤ maxLen from by rw [htk]; unfold maxLen; omega)
        have b4 := Lib.hid (show (X.length + 1) * 8 ≤ 140737488355328 from by rw [htk]; omega)
        have hl4 : (X ++ [y]).length = n + 1 := by simp [htk]
        have b5 := Lib.hid (show (X ++ [y]).length + 0 ≤ maxLen from by rw [hl4]; unfold maxLen; omega)
        have b6 := Lib.hid (show ((X ++ [y]).length + 0) * 8 ≤ 140737488355328 from by rw [hl4]; omega)
        have b7 := Lib.hid (show w2.heap.size ≤ (w2.alloc (.cells #[] 3)).heap.size from by simp)
        have e1 := Lib.hid (Owned.empty .i64 (heap_new w2 (.cells #[] 3)) (Nat.le_refl w2.heap.size))
        go_wp2_with (at_builtin; go_loud (with_reducible refine wpList_append_is rfl _ _ 26 rfl w2.heap.size 3 .i64 8 Try.underlying26 Try.info_int (.slice (some ⟨w2.heap.size, 0, none⟩) 0 0) [] rfl e1.out (some ad) n n X rfl HTK.out e2.out nc_some b1.out b2.out b7.out ?o7))
        case o7 =>
          intro v3 w3 hO3 hgr3 _
          have HO3 := Lib.hid (show Owned .i64 3 w3 w2.heap.size v3 X by simpa using hO3)
          have HM3 := Lib.hid (grown_ge ((Mod.refl [] w2).alloc _) hgr3 (fun b hb => by simp [Value.ownBlock] at hb; omega))
          have HS3 := Lib.hid HM3.out.size
          have e3 := Lib.hid (HO3.out.mod ((Mod.refl [] w3).alloc (.cells #[.int .i64 y] 3)) (by simp))
          have e4 := Lib.hid (show RdInts .i64 (w3.alloc (.cells #[.int .i64 y] 3)) (some ⟨w3.heap.size, 0, none⟩) [y] from RdInts.of_row (heap_new w3 _))
          have b8 := Lib.hid (show w2.heap.size ≤ (w3.alloc (.cells #[.int .i64 y] 3)).heap.size from by have := HS3.out; simp; omega)
          clear hO3 hgr3 e1 e2
          go_wp2_with (at_builtin; go_loud (with_reducible refine wpList_append_is rfl _ _ 26 rfl w2.heap.size 3 .i64 8 Try.underlying26 Try.info_int v3 X rfl e3.out (some ⟨w3.heap.size, 0, none⟩) 1 1 [y] rfl rfl e4.out nc_some b3.out b4.out b8.out ?p7))
          case p7 =>
            intro v4 w4 hO4 hgr4 _
            have HO4 := Lib.hid hO4
            have hM4 : Mod [] w2 w4 := grown_ge (HM3.out.alloc _) hgr4 (fun b hb => (HO3.out.own_ge b hb).1)
            have HM4 := Lib.hid hM4
            have s1 := (hM4.cell r6 (by simp)).trans r1
            have s2 := (hM4.frozen r6 (by simp)).trans r2
            have s6 := Nat.lt_of_lt_of_le r6 hM4.size
            have hS4 : w2.heap.size ≤ w4.heap.size := hM4.size
            have HS4 := Lib.hid hS4
            have e5 := Lib.hid (show RdInts .i64 w4 (some ad) (Y) from HRDB.out _ hM4)
            clear hO4 hgr4 hM4 r1 r2 e3 e4
            go_wp2_with (at_builtin; go_loud (with_reducible refine wpList_append_is rfl _ _ 26 rfl w2.heap.size 3 .i64 8 Try.underlying26 Try.info_int v4 (X ++ [y]) rfl HO4.out (some ad) 0 0 (Y) rfl HDK.out e5.out nc_some b5.out b6.out HS4.out ?q7))
            case q7 =>
              intro v5 w5 hO5 hgr5 _
              obtain ⟨a5, m5, c5, rfl⟩ : ∃ a5 m5 c5, v5 = .slice a5 m5 c5 := by
                obtain ⟨a5, c5, e5, _⟩ := hO5.shape
                exact ⟨a5, _, c5, e5⟩
              have HO5 := Lib.hid hO5
              have hM5 : Mod [] w2 w5 := grown_ge HM4.out hgr5 (fun b hb => (HO4.out.own_ge b hb).1)
              have HM5 := Lib.hid hM5
              have hS5 : w2.heap.size ≤ w5.heap.size := hM5.size
              have t1 : w5.cell? ⟨r, 0, none⟩ = some (.slice (some ad) n n) := by rw [hM5.cell (by exact r6) (by simp)]; rw [← HM4.out.cell (by exact r6) (by simp)]; exact s1
              have t2 : w5.frozen? ⟨r, 0, none⟩ = false := by rw [hM5.frozen (by exact r6) (by simp)]; rw [← HM4.out.frozen (by exact r6) (by simp)]; exact s2
              clear hO5 hgr5 s1 s2 hM5
              go_wp2_with fail
              refine bodyPost_end (results_none rfl _ _ _) rfl ?_
              have hJL : joinL L y ls = X ++ y :: Y := by rw [← HXY.out.1, ← HXY.out.2]; unfold joinL; rw [if_neg HY.out, HK.out]; simp [insAt]
              have hJR : joinR L y ls = lotRest ls ((n : Nat) + 1) := by unfold joinR; rw [if_neg HY.out, HN.out]
              unfold DJoinPost
              rw [hJL, hJR]
              have hO6 : Owned .i64 3 w5 w2.heap.size (.slice a5 m5 c5) (X ++ y :: Y) := by simpa using HO5.out
              exact ⟨rfl, round_own hO6 t1 t2 (by omega) HRG.out.1 (fun s hs => by have := HG.out s hs; omega), (HL2.out.mod HM5.out (by simp) (by simp)).mod ((Mod.refl [r] w5).setCell (.inl (by simp)) _) (by simpa using Ne.symm hrd) (by simpa using hBr), ((HM2.out.mono (T := [d, r]) (fun q _ hq => by simp at hq; simp [hq])).trans (HM5.out.mono (by simp))).setCell (.inl (by simp)) _⟩
      · skip
        obtain ⟨X, hX⟩ : ∃ X, L.take k = X := ⟨_, rfl⟩
        obtain ⟨Y, hY⟩ : ∃ Y, L.drop k = Y := ⟨_, rfl⟩
        have HXY := Lib.hid (And.intro hX hY)
        have e2 := Lib.hid ((HRD2.out.alloc (.cells #[] 3)).take k)
        have HRDB : ∀ w4, Mod [] w2 w4 → RdInts .i64 w4 (some (ad.add k)) Y := by
          intro w4 hM4
          have HRD4 := Lib.hid (HRD2.out.mod hM4 (by simp))
          rw [← hY]
          exact HRD4.out.back k
        rw [hX] at htk e2
        rw [hY] at hdk
        clear hX hY
        have HRDB := Lib.hid HRDB
        have HTK := Lib.hid htk
        have HDK := Lib.hid hdk
        have b1 := Lib.hid (show ([] : List Int).length + k ≤ maxLen from by unfold maxLen; simp <;> omega)
        have b2 := Lib.hid (show (([] : List Int).length + k) * 8 ≤ 140737488355328 from by simp <;> omega)
        have b3 := Lib.hid (show X.length + 1 ≤ maxLen from by rw [htk]; unfold maxLen; omega)
        have b4 := Lib.hid (show (X.length + 1) * 8 ≤ 140737488355328 from by rw [htk]; omega)
        have hl4 : (X ++ [y]).length = k + 1 := by simp [htk]
        have b5 := Lib.hid (show (X ++ [y]).length + (n - k) ≤ maxLen from by rw [hl4]; unfold maxLen; omega)
        have b6 := Lib.hid (show ((X ++ [y]).length + (n - k)) * 8 ≤ 140737488355328 from by rw [hl4]; omega)
        have b7 := Lib.hid (show w2.heap.size ≤ (w2.alloc (.cells #[] 3)).heap.size from by simp)
        have e1 := Lib.hid (Owned.empty .i64 (heap_new w2 (.cells #[] 3)) (Nat.le_refl w2.heap.size))
        go_wp2_with (at_builtin; go_loud (with_reducible refine wpList_append_is rfl _ _ 26 rfl w2.heap.size 3 .i64 8 Try.underlying26 Try.info_int (.slice (some ⟨w2.heap.size, 0, none⟩) 0 0) [] rfl e1.out (some ad) k rc X rfl HTK.out e2.out nc_some b1.out b2.out b7.out ?o7))
        case o7 =>
          intro v3 w3 hO3 hgr3 _
          have HO3 := Lib.hid (show Owned .i64 3 w3 w2.heap.size v3 X by simpa using hO3)
          have HM3 := Lib.hid (grown_ge ((Mod.refl [] w2).alloc _) hgr3 (fun b hb => by simp [Value.ownBlock] at hb; omega))
          have HS3 := Lib.hid HM3.out.size
          have e3 := Lib.hid (HO3.out.mod ((Mod.refl [] w3).alloc (.cells #[.int .i64 y] 3)) (by simp))
          have e4 := Lib.hid (show RdInts .i64 (w3.alloc (.cells #[.int .i64 y] 3)) (some ⟨w3.heap.size, 0, none⟩) [y] from RdInts.of_row (heap_new w3 _))
          have b8 := Lib.hid (show w2.heap.size ≤ (w3.alloc (.cells #[.int .i64 y] 3)).heap.size from by have := HS3.out; simp; omega)
          clear hO3 hgr3 e1 e2
          go_wp2_with (at_builtin; go_loud (with_reducible refine wpList_append_is rfl _ _ 26 rfl w2.heap.size 3 .i64 8 Try.underlying26 Try.info_int v3 X rfl e3.out (some ⟨w3.heap.size, 0, none⟩) 1 1 [y] rfl rfl e4.out nc_some b3.out b4.out b8.out ?p7))
          case p7 =>
            intro v4 w4 hO4 hgr4 _
            have HO4 := Lib.hid hO4
            have hM4 : Mod [] w2 w4 := grown_ge (HM3.out.alloc _) hgr4 (fun b hb => (HO3.out.own_ge b hb).1)
            have HM4 := Lib.hid hM4
            have s1 := (hM4.cell r6 (by simp)).trans r1
            have s2 := (hM4.frozen r6 (by simp)).trans r2
            have s6 := Nat.lt_of_lt_of_le r6 hM4.size
            have hS4 : w2.heap.size ≤ w4.heap.size := hM4.size
            have HS4 := Lib.hid hS4
            have e5 := Lib.hid (show RdInts .i64 w4 (some (ad.add k)) (Y) from HRDB.out _ hM4)
            clear hO4 hgr4 hM4 r1 r2 e3 e4
            go_wp2_with (at_builtin; go_loud (with_reducible refine wpList_append_is rfl _ _ 26 rfl w2.heap.size 3 .i64 8 Try.underlying26 Try.info_int v4 (X ++ [y]) rfl HO4.out (some (ad.add k)) (n - k) (rc - k) (Y) rfl HDK.out e5.out nc_some b5.out b6.out HS4.out ?q7))
            case q7 =>
              intro v5 w5 hO5 hgr5 _
              obtain ⟨a5, m5, c5, rfl⟩ : ∃ a5 m5 c5, v5 = .slice a5 m5 c5 := by
                obtain ⟨a5, c5, e5, _⟩ := hO5.shape
                exact ⟨a5, _, c5, e5⟩
              have HO5 := Lib.hid hO5
              have hM5 : Mod [] w2 w5 := grown_ge HM4.out hgr5 (fun b hb => (HO4.out.own_ge b hb).1)
              have HM5 := Lib.hid hM5
              have hS5 : w2.heap.size ≤ w5.heap.size := hM5.size
              have t1 : w5.cell? ⟨r, 0, none⟩ = some (.slice (some ad) n rc) := by rw [hM5.cell (by exact r6) (by simp)]; rw [← HM4.out.cell (by exact r6) (by simp)]; exact s1
              have t2 : w5.frozen? ⟨r, 0, none⟩ = false := by rw [hM5.frozen (by exact r6) (by simp)]; rw [← HM4.out.frozen (by exact r6) (by simp)]; exact s2
              clear hO5 hgr5 s1 s2 hM5
              go_wp2_with fail
              refine bodyPost_end (results_none rfl _ _ _) rfl ?_
              have hJL : joinL L y ls = X ++ y :: Y := by rw [← HXY.out.1, ← HXY.out.2]; unfold joinL; rw [if_neg HY.out, HK.out]; simp [insAt]
              have hJR : joinR L y ls = lotRest ls ((n : Nat) + 1) := by unfold joinR; rw [if_neg HY.out, HN.out]
              unfold DJoinPost
              rw [hJL, hJR]
              have hO6 : Owned .i64 3 w5 w2.heap.size (.slice a5 m5 c5) (X ++ y :: Y) := by simpa using HO5.out
              exact ⟨rfl, round_own hO6 t1 t2 (by omega) HRG.out.1 (fun s hs => by have := HG.out s hs; omega), (HL2.out.mod HM5.out (by simp) (by simp)).mod ((Mod.refl [r] w5).setCell (.inl (by simp)) _) (by simpa using Ne.symm hrd) (by simpa using hBr), ((HM2.out.mono (T := [d, r]) (fun q _ hq => by simp at hq; simp [hq])).trans (HM5.out.mono (by simp))).setCell (.inl (by simp)) _⟩

end Go.Proofs.Ytnapboojfhojjaa
