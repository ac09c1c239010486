/-
  The walk of round.Join.
-/
import Derived.Test.YtnapboojfhojjaaRndC
import Derived.Test.YtnapboojfhojjaaRndJ
namespace Go.Proofs.Ytnapboojfhojjaa
open Go.RowKit

def joinK (L ls : List Int) : Nat := (lotBelow ls ((L.length : Int) + 1)).toNat
def joinL (L : List Int) (y : Int) (ls : List Int) : List Int := if y ∈ L then L else insAt (joinK L ls) y L
def joinR (L : List Int) (y : Int) (ls : List Int) : List Int := if y ∈ L then ls else lotRest ls ((L.length : Int) + 1)

def JoinPost (G : List Nat) (w : World) (r d g : Nat) (L ls : List Int) (y : Int) (e : Ending) (w' : World) : Prop :=
  e = .returned (.tuple #[]) ∧ RoundAt G w' r (joinL L y ls) ∧ LotsAt w' d g (joinR L y ls) ∧ Mod [d, r] w w'

set_option maxHeartbeats 4000000 in
theorem join_any (G : List Nat) (r d g : Nat) (y : Int) (L ls : List Int) (w : World) (hR : RoundAt G w r L) (hL : LotsAt w d g ls) (hl : L.length ≤ 1000) (hrG : r ∈ G) (hdG : d ∈ G) (hGl : ∀ s ∈ G, s < w.heap.size) (hrd : r ≠ d) (hrg : r ≠ g) :
    Calls Try.prog 9 #[.pointer (some ⟨r, 0, none⟩), .int .i64 y, .pointer (some ⟨d, 0, none⟩)] w (JoinPost G w r d g L ls y) := by
  obtain ⟨a, c, h1, hrdL⟩ := hR.rd
  have hrl := block_lt_of_cell h1
  obtain ⟨n, hn⟩ : ∃ n, L.length = n := ⟨_, rfl⟩
  have hcon := contains_any a c L y w hrdL (by omega)
  rw [hn] at hcon h1 hl
  have HR := Lib.hid hR
  have HL := Lib.hid hL
  have HCON := Lib.hid hcon
  have HN := Lib.hid hn
  have HG := Lib.hid hGl
  have HRG := Lib.hid (And.intro hrG hdG)
  clear hR hL hcon hrdL hn hGl hrG hdG
  by_cases hy : y ∈ L
  · have HY := Lib.hid hy
    clear hy
    go_enter Try.func9, Try.ntmps9
    go_wp2_with fail
    refine HCON.out.mono ?_
    rintro e w1 ⟨rfl, rfl⟩
    rw [decide_eq_true HY.out]
    go_wp2_with fail
    refine bodyPost_ret (results_none rfl _ _ _) rfl ?_
    refine ⟨rfl, ?_, ?_, Mod.refl _ _⟩
    · unfold joinL; rw [if_pos HY.out]; exact HR.out
    · unfold joinR; rw [if_pos HY.out]; exact HL.out
  · have HY := Lib.hid hy
    clear hy
    obtain ⟨k, hk⟩ : ∃ k, joinK L ls = k := ⟨_, rfl⟩
    have hkb := lotBelow_range ls ((L.length : Int) + 1)
    have hkn : k ≤ n := by have := hkb.2 (by omega); have := HN.out; unfold joinK at hk; omega
    have HKI := Lib.hid (show lotBelow ls ((n : Int) + 1) = (k : Int) by have := hkb.1; rw [← HN.out, ← hk]; unfold joinK; omega)
    have HK := Lib.hid hk
    have hw1 : wrap64 ((n : Int) + 1) = (n : Int) + 1 := wrap_small (by omega) (by omega)
    clear hk hkb
    go_enter Try.func9, Try.ntmps9
    go_wp2_with fail
    refine HCON.out.mono ?_
    rintro e w1 ⟨rfl, rfl⟩
    rw [decide_eq_false HY.out]
    go_wp2_with fail
    refine (below_is d g ls ((n : Int) + 1) ((n : Int) + 1) k _ HL.out (by omega) rfl HKI.out).mono ?_
    rintro e w2 ⟨rfl, hL2, hM2⟩
    have HR2 := Lib.hid (HR.out.mod hM2 (by simpa using hrd) (by intro s hs; simp at hs; rw [hs]; exact HRG.out.2))
    have HL2 := Lib.hid hL2
    have HM2 := Lib.hid hM2
    clear hL2 hM2
    go_wp2_with fail
    refine (rleft_any G r L _ HR2.out (by have := HN.out; omega)).mono ?_
    rintro e w3 ⟨g', rfl, hg', hO, hM3⟩
    have HR3 := Lib.hid (HR2.out.same hM3)
    have HL3 := Lib.hid (HL2.out.mod hM3 (by simp) (by simp))
    have HM3 := Lib.hid (HM2.out.trans (hM3.mono (by simp)))
    have hins := insert_any g' w3.heap.size k y L (w3.alloc (.cells #[.int .i64 y] 3)) (hO.mod ((Mod.refl [] _).alloc _) (by simp)) (heap_new _ _) (by have := HN.out; omega) (by have := HN.out; omega)
    rw [HN.out] at hins ⊢
    have HINS := Lib.hid hins
    clear hO hM3 hg' hins
    go_wp2_with fail
    refine HINS.out.mono ?_
    rintro e w4 ⟨g4, c4, rfl, hg4, hgl4, hlc, hcm, hcell, hM4⟩
    have HR4 := Lib.hid ((HR3.out.same ((Mod.refl [] _).alloc _)).same hM4)
    have q1 : ∃ a c, w4.cell? ⟨r, 0, none⟩ = some (.slice a L.length c) ∧ w4.frozen? ⟨r, 0, none⟩ = false ∧ r < w4.heap.size := by
      obtain ⟨a, c, e1, e2, _, _, _, e6, _⟩ := HR4.out
      exact ⟨a, c, e1, e2, e6⟩
    obtain ⟨a5, c5, q1, q2, q3⟩ := q1
    have HL4 := Lib.hid ((HL3.out.mod ((Mod.refl [] _).alloc (.cells #[.int .i64 y] 3)) (by simp) (by simp)).mod hM4 (by simp) (by simp))
    have HM4 := Lib.hid ((HM3.out.alloc (.cells #[.int .i64 y] 3)).trans (hM4.mono (by simp)))
    have HPUT := Lib.hid (And.intro hg4 (And.intro hgl4 (And.intro hlc (And.intro hcm hcell))))
    obtain ⟨n4, hn4⟩ : ∃ n4, (insAt k y L).length = n4 := ⟨_, rfl⟩
    rw [hn4]
    have HN4 := Lib.hid hn4
    clear hg4 hgl4 hlc hcm hcell hM4 hn4
    go_wp2_with fail
    refine bodyPost_end (results_none rfl _ _ _) rfl ?_
    obtain ⟨hg4, hgl4, hlc, hcm, hcell⟩ := HPUT.out
    have hJL : joinL L y ls = insAt k y L := by unfold joinL; rw [if_neg HY.out, HK.out]
    have hJR : joinR L y ls = lotRest ls ((n : Int) + 1) := by unfold joinR; rw [if_neg HY.out, HN.out]
    have hgG : g4 ∉ G := fun h => by
      have h1 := HG.out g4 h
      have h2 := HM3.out.size
      simp at hg4
      omega
    have hgr : r ≠ g4 := fun e => hgG (by rw [← e]; exact HRG.out.1)
    unfold JoinPost
    rw [hJL, hJR]
    refine ⟨rfl, ⟨some ⟨g4, 0, none⟩, c4, ?_, ?_, hlc, hcm, fun h => (by cases h), ?_, fun _ => ⟨g4, 0, rfl, hgG, ?_, fun j x hj => ?_⟩⟩, ?_, ?_⟩
    · rw [HN4.out]
      exact cell_set_same q1
    · exact (World.frozen?_setCell _ _ _ _).trans q2
    · simpa [World.setCell] using q3
    · simpa [World.setCell] using hgl4
    · rw [Nat.zero_add]
      exact (cell_set_far _ _ _ _ hgr).trans (hcell j x hj)
    · exact HL4.out.mod ((Mod.refl [r] w4).setCell (.inl (by simp)) _) (by simpa using Ne.symm hrd) (by simpa using Ne.symm hrg)
    · exact (HM4.out.mono (T := [d, r]) (fun q _ hq => by simp at hq; simp [hq])).setCell (.inl (by simp)) _

end Go.Proofs.Ytnapboojfhojjaa
