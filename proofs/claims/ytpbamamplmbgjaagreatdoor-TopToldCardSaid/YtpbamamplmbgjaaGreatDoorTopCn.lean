/-
  The walk of cloud.New: one node, alone.
-/
import Derived.Test.YtpbamamplmbgjaaGreatDoorTopCl
namespace Go.Proofs.YtpbamamplmbgjaaGreatDoor
set_option linter.unusedSimpArgs false
set_option linter.unusedVariables false
open Go.RowKit

/-- A cloud's block while it is made. -/
structure CloudRaw (w : World) (c : Nat) (v0 : Value) (up : Int) (l tr : Value) : Prop where
  c0 : w.cell? ⟨c, 0, none⟩ = some v0
  n : w.cell? ⟨c, 64, none⟩ = some (.int .i64 1)
  up : w.cell? ⟨c, 65, none⟩ = some (.int .u64 up)
  bag : w.cell? ⟨c, 66, none⟩ = some (.slice none 0 0)
  lots : w.cell? ⟨c, 67, none⟩ = some l
  trace : w.cell? ⟨c, 68, none⟩ = some tr
  free : ∀ j, w.frozen? ⟨c, j, none⟩ = false
theorem CloudRaw.lt {w : World} {c : Nat} {v0 l tr : Value} {up : Int} (h : CloudRaw w c v0 up l tr) : c < w.heap.size := block_lt_of_cell h.c0
theorem CloudRaw.mod {S : List Nat} {w w' : World} {c : Nat} {v0 l tr : Value} {up : Int} (h : CloudRaw w c v0 up l tr) (hm : Mod S w w') (hs : c ∉ S) : CloudRaw w' c v0 up l tr :=
  ⟨hm.at h.c0 hs, hm.at h.n hs, hm.at h.up hs, hm.at h.bag hs, hm.at h.lots hs, hm.at h.trace hs, fun j => (hm.frozen (by exact h.lt) hs).trans (h.free j)⟩
theorem CloudRaw.set0 {w : World} {c : Nat} {v0 l tr : Value} {up : Int} (h : CloudRaw w c v0 up l tr) (v : Value) : CloudRaw (w.setCell ⟨c, 0, none⟩ v) c v up l tr := by
  refine ⟨cell_set_same h.c0, ?_, ?_, ?_, ?_, ?_, fun j => (frozen_set _ _ _ _).trans (h.free j)⟩
  · rw [cell_set_off _ _ _ _ (by simp)]; exact h.n
  · rw [cell_set_off _ _ _ _ (by simp)]; exact h.up
  · rw [cell_set_off _ _ _ _ (by simp)]; exact h.bag
  · rw [cell_set_off _ _ _ _ (by simp)]; exact h.lots
  · rw [cell_set_off _ _ _ _ (by simp)]; exact h.trace
theorem CloudRaw.setUp {w : World} {c : Nat} {v0 l tr : Value} {up : Int} (h : CloudRaw w c v0 up l tr) (v : Int) : CloudRaw (w.setCell ⟨c, 65, none⟩ (.int .u64 v)) c v0 v l tr := by
  refine ⟨?_, ?_, cell_set_same h.up, ?_, ?_, ?_, fun j => (frozen_set _ _ _ _).trans (h.free j)⟩
  · rw [cell_set_off _ _ _ _ (by simp)]; exact h.c0
  · rw [cell_set_off _ _ _ _ (by simp)]; exact h.n
  · rw [cell_set_off _ _ _ _ (by simp)]; exact h.bag
  · rw [cell_set_off _ _ _ _ (by simp)]; exact h.lots
  · rw [cell_set_off _ _ _ _ (by simp)]; exact h.trace
theorem CloudRaw.cloud {w : World} {c N : Nat} {l tr : Value} (h : CloudRaw w c (.pointer (some ⟨N, 0, none⟩)) 1 l tr) : CloudAt w c N l tr := ⟨h.c0, h.n, h.up, h.bag, h.lots, h.trace, h.free⟩

/-- A new cloud of one. -/
structure CloudNew (w : World) (c N D K r S H T L R C m B sz : Nat) (l tr : Value) : Prop where
  cloud : CloudAt w c N l tr
  own : w.ownsRow B 197 9 tr 1 (eflat [⟨0, false, 1, 1, 1, 0, 0, 0, ⟨#[]⟩⟩])
  alone : Alone w N D K r S H T L R C m (.slice none 0 0) 0 0 [] 0 0 0 0 (fun _ => p0) 1 (fun _ => none) sz (fun _ => none) 0 #[] 0
  low : (c < N ∧ c < D ∧ c < K ∧ c < S ∧ c < H ∧ c < L ∧ c < R) ∧ c < r ∧ c < T ∧ c < C ∧ c < m
  high : ((N < B ∧ D < B ∧ K < B ∧ S < B ∧ H < B ∧ L < B ∧ R < B) ∧ B ≤ w.heap.size) ∧ r < B ∧ T < B ∧ C < B ∧ m < B
def CNewPost (w : World) (e : Ending) (w' : World) : Prop :=
  ∃ c N D K r S H T L R C m B sz l tr, e = .returned (.pointer (some ⟨c, 0, none⟩)) ∧ CloudNew w' c N D K r S H T L R C m B sz l tr ∧ w.heap.size ≤ c ∧ Mod [] w w'

theorem Alone.keepN {w w' : World} {N D K r S H T L R C m : Nat} {ev ev' : Value} {now num num' : Int} {Q Q' : List M} {met done quiet low : Int} {ring : Nat → P} {nx : Int} {f : Int → Option Int} {sz : Nat} {lf : Int → Option Int} {lsz : Nat} {re : Array MapEntry} {rc : Nat} {X : List Nat}
    (h : Alone w N D K r S H T L R C m ev now num Q met done quiet low ring nx f sz lf lsz re rc) (x : NodeAt w' N D K (some ⟨S, 0, none⟩) ev' 1) (k : DeskAt w' K 0 num' Q') (hm : Mod X w w') (hX : (D ∉ X ∧ r ∉ X ∧ 1 ∉ X ∧ S ∉ X ∧ H ∉ X ∧ T ∉ X ∧ L ∉ X ∧ R ∉ X) ∧ C ∉ X ∧ m ∉ X) :
    Alone w' N D K r S H T L R C m ev' now num' Q' met done quiet low ring nx f sz lf lsz re rc :=
  ⟨x, h.det.mod hm hX.1.1 hX.1.2.1, k, h.tab.mod hm hX.1.2.2.1, h.sit.mod hm hX.1.2.2.2.1, h.shelf.mod hm hX.1.2.2.2.2.1, h.turn.mod hm hX.1.2.2.2.2.2.1, h.last.mod hm hX.1.2.2.2.2.2.2.1, row_mod hm h.reach hX.1.2.2.2.2.2.2.2, h.clerk.mod hm hX.2.1 hX.2.2, h.sep⟩

theorem cz0 : Tryz.zeroCells185[0]? = some (.pointer none) := by kernel_rfl
theorem cz65 : Tryz.zeroCells185[65]? = some (.int .u64 0) := by kernel_rfl
theorem cz66 : Tryz.zeroCells185[66]? = some (.slice none 0 0) := by kernel_rfl
theorem cz68 : Tryz.zeroCells185[68]? = some (.slice none 0 0) := by kernel_rfl
theorem czs : Tryz.zeroCells185.size = 69 := by decide +kernel
theorem cloud_made {w : World} {l : Value} : CloudRaw (w.alloc (.cells ((Tryz.zeroCells185.setIfInBounds 64 (.int .i64 1)).setIfInBounds 67 l) 185)) w.heap.size (.pointer none) 0 l (.slice none 0 0) := by
  have hh := heap_new w (.cells ((Tryz.zeroCells185.setIfInBounds 64 (.int .i64 1)).setIfInBounds 67 l) 185)
  have hz := czs
  have ho : ∀ j v, j ≠ 64 → j ≠ 67 → Tryz.zeroCells185[j]? = some v → ((Tryz.zeroCells185.setIfInBounds 64 (.int .i64 1)).setIfInBounds 67 l)[j]? = some v := fun j v h1 h2 h => by
    rw [Array.getElem?_setIfInBounds_ne (by omega), Array.getElem?_setIfInBounds_ne (by omega)]
    exact h
  refine ⟨cell_in hh (ho 0 _ (by decide) (by decide) cz0), cell_in hh ?_, cell_in hh (ho 65 _ (by decide) (by decide) cz65), cell_in hh (ho 66 _ (by decide) (by decide) cz66), cell_in hh ?_, cell_in hh (ho 68 _ (by decide) (by decide) cz68), fun j => free_in hh⟩
  · rw [Array.getElem?_setIfInBounds_ne (by decide), Array.getElem?_setIfInBounds_self_of_lt (by rw [hz]; decide)]
  · rw [Array.getElem?_setIfInBounds_self_of_lt (by rw [Array.size_setIfInBounds, hz]; decide)]

set_option maxRecDepth 100000 in
set_option maxHeartbeats 8000000 in
theorem cnew0 (w : World) (ht : Tab w) : Calls Tryz.prog 33 #[.int .i64 1, .int .u64 1, .slice none 0 0] w (CNewPost w) := by
  have HT := Lib.hid ht
  clear ht
  go_enter Tryz.func33, Tryz.ntmps33
  go_wp2_with fail
  refine (new_any none 0 [] _ (fun h => absurd rfl h) (by simp) (by simp)).mono ?_
  rintro e w1 ⟨ld, lg, rfl, _, _, _, hM1⟩
  replace HT := Lib.hid (HT.out.mod hM1 (by simp))
  have HM := Lib.hid hM1
  clear hM1
  go_wp2_with fail
  have hraw := cloud_made (w := w1) (l := .pointer (some ⟨ld, 0, none⟩))
  have hmw := (Mod.refl [] w1).alloc (.cells ((Tryz.zeroCells185.setIfInBounds 64 (.int .i64 1)).setIfInBounds 67 (.pointer (some ⟨ld, 0, none⟩))) 185)
  have h01 := HT.out.1
  replace HT := Lib.hid (HT.out.mod hmw (by simp))
  have HC0 := Lib.hid (show 1 < w1.heap.size ∧ w.heap.size ≤ w1.heap.size ∧ w1.heap.size < (w1.alloc (.cells ((Tryz.zeroCells185.setIfInBounds 64 (.int .i64 1)).setIfInBounds 67 (.pointer (some ⟨ld, 0, none⟩))) 185)).heap.size from ⟨h01, HM.out.size, by simp⟩)
  clear h01
  replace HM := Lib.hid (HM.out.trans hmw)
  have HR := Lib.hid hraw
  clear hraw hmw
  generalize (Tryz.zeroCells185.setIfInBounds 64 (.int .i64 1)).setIfInBounds 67 (.pointer (some ⟨ld, 0, none⟩)) = ZC at HT HC0 HM HR ⊢
  generalize w1.alloc (.cells ZC 185) = w2 at HT HC0 HM HR ⊢
  generalize w1.heap.size = c at HC0 HR ⊢
  refine wp_loop_rounds 2 ?_
  rw [rounds_succ]
  have c0 := HR.out.c0
  have f0 := HR.out.free 0
  have hcl := HR.out.lt
  go_wp2_with fail
  go_region_with (go_at_call 88; refine (newnode0 _).mono ?_; rintro e w3 ⟨N, D, r, K, rfl, hN, hD, hK, hb, hM3⟩; have HM3 := Lib.hid ((Mod.refl [] w2).drew.trans hM3); have HNW := Lib.hid (And.intro hN (And.intro hD (And.intro hK hb))); have k0 := HM3.out.at c0 (by simp); have g0 := (HM3.out.frozen (p := ⟨c, 0, none⟩) hcl (by simp)).trans f0; clear hN hD hK hb hM3)
  have hs3 : Mod [c] w3 (w3.setCell ⟨c, 0, none⟩ (.pointer (some ⟨N, 0, none⟩))) := (Mod.refl _ _).setCell (.inl (by simp)) _
  replace HR := Lib.hid ((HR.out.mod HM3.out (by simp)).set0 (.pointer (some ⟨N, 0, none⟩)))
  replace HT := Lib.hid ((HT.out.mod HM3.out (by simp)).mod hs3 (by have := HC0.out.1; simp; omega))
  obtain ⟨hN, hD, hK, hb⟩ := HNW.out
  have hX : c < D ∧ c < r ∧ D ≠ r ∧ D < K ∧ r < K ∧ K < N := by
    have h1 := HC0.out
    simp at hb
    omega
  replace HNW := Lib.hid (And.intro (hN.mod hs3 (by simp; omega)) (And.intro (hD.mod hs3 (by simp; omega) (by simp; omega)) (And.intro (hK.mod hs3 (by simp; omega)) hX)))
  replace HM := Lib.hid ((HM.out.trans HM3.out).step hs3 (fun x hx => .inr (by have := HC0.out; simp at hx; omega)))
  clear c0 f0 hcl k0 g0 hs3 hN hD hK hb hX HM3
  generalize w3.setCell ⟨c, 0, none⟩ (.pointer (some ⟨N, 0, none⟩)) = w4 at HR HT HNW HM ⊢
  have u0 := HR.out.up
  have f65 := HR.out.free 65
  go_wp2_with fail
  refine (with_is 0 1 0 (by decide) (by decide) _).mono ?_
  rintro e w5 ⟨rfl, rfl⟩
  go_wp2_with fail
  have hs5 : Mod [c] w4 (w4.setCell ⟨c, 65, none⟩ (.int .u64 1)) := (Mod.refl _ _).setCell (.inl (by simp)) _
  obtain ⟨hN, hD, hK, hX⟩ := HNW.out
  replace HR := Lib.hid (HR.out.setUp 1)
  replace HT := Lib.hid (HT.out.mod hs5 (by have := HC0.out.1; simp; omega))
  replace HNW := Lib.hid (And.intro (hN.mod hs5 (by simp; omega)) (And.intro (hD.mod hs5 (by simp; omega) (by simp; omega)) (And.intro (hK.mod hs5 (by simp; omega)) hX)))
  replace HM := Lib.hid (HM.out.step hs5 (fun x hx => .inr (by have := HC0.out; simp at hx; omega)))
  clear u0 f65 hN hD hK hX hs5
  generalize w4.setCell ⟨c, 65, none⟩ (.int .u64 1) = w6 at HR HT HNW HM ⊢
  refine (has_is 1 0 true (by decide) (by decide) _).mono ?_
  rintro e w7 ⟨rfl, rfl⟩
  have c0 := HR.out.c0
  go_wp2_with fail
  obtain ⟨hN, hD, hK, hX⟩ := HNW.out
  refine (found0 N D K r _ hN hD hK HT.out (by omega)).mono ?_
  rintro e w8 ⟨rfl, hI⟩
  obtain ⟨_, S, H, T, L, R, C, m, sz, g, cap, hin, hown, hbd, hap, hM8⟩ := hI
  have hNl := hN.lt
  have hsep : Sep N D K r S H T L R C m := Sep.of (by have := HC0.out.1; omega) hap
  have hal := hin.alone hsep
  have hl8 := hal.lts
  have hc8 := (HR.out.mod hM8 (show c ∉ [N] by simp; omega)).cloud
  have hgN : g ≠ N := by have := (ownsRow_ge hown g rfl).1; omega
  have HAL := Lib.hid hal
  have HC8 := Lib.hid hc8
  have HCE := Lib.hid (ownsRow_cells hown)
  have HLW := Lib.hid (show ((c < N ∧ c < D ∧ c < K ∧ c < S ∧ c < H ∧ c < L ∧ c < R) ∧ c < r ∧ c < T ∧ c < C ∧ c < m) ∧ (((N < w8.heap.size ∧ D < w8.heap.size ∧ K < w8.heap.size ∧ S < w8.heap.size ∧ H < w8.heap.size ∧ L < w8.heap.size ∧ R < w8.heap.size) ∧ w8.heap.size ≤ w8.heap.size) ∧ r < w8.heap.size ∧ T < w8.heap.size ∧ C < w8.heap.size ∧ m < w8.heap.size) ∧ g ≠ N from by omega)
  replace HM := Lib.hid (HM.out.step hM8 (fun x hx => .inr (by have := HC0.out; simp at hx; omega)))
  clear hNl hsep hal hl8 hc8 hgN hN hD hK hX hin hown hbd hap hM8 c0 HR HT HNW
  go_wp2_with fail
  rw [rounds_succ]
  go_wp2_with fail
  refine (cpoll_one c N D K g cap w8.heap.size _ (.slice none 0 0) (some ⟨S, 0, none⟩) 1 [] 1 1 1 0 0 0 ⟨#[]⟩ _ HC8.out HAL.out.node HCE.out ⟨rfl, .inl ⟨rfl, rfl⟩⟩ (by simp) (by have := HLW.out; omega)).mono ?_
  rintro e w9 ⟨rfl, tr, hc9, hn9, ho9, hM9⟩
  have HF := Lib.hid (And.intro hc9 (And.intro hn9 (And.intro ho9 hM9)))
  clear hc9 hn9 ho9 hM9
  go_wp2_with fail
  go_ret
  obtain ⟨hc9, hn9, ho9, hM9⟩ := HF.out
  have hM9 : Mod [c, N] w8 w9 := hM9
  obtain ⟨hlo, hhi, hgN⟩ := HLW.out
  have hs := HAL.out.sep
  have hc0 := HC0.out.1
  refine ⟨c, N, D, K, r, S, H, T, L, R, C, m, w8.heap.size, sz, _, tr, rfl, ⟨hc9, ho9, HAL.out.keepN hn9 (HAL.out.desk.mod hM9 ?_) hM9 ?_, hlo, ⟨⟨hhi.1.1, hM9.size⟩, hhi.2⟩⟩, HC0.out.2.1, HM.out.step hM9 (fun x hx => .inr ?_)⟩
  · have : K ≠ N := by simp [hs]
    simp
    omega
  · have h1 : D ≠ N ∧ r ≠ N ∧ 1 ≠ N ∧ S ≠ N ∧ H ≠ N ∧ T ≠ N ∧ L ≠ N ∧ R ≠ N ∧ C ≠ N ∧ m ≠ N := by simp [hs]
    simp
    omega
  · have := HC0.out
    simp at hx
    omega

end Go.Proofs.YtpbamamplmbgjaaGreatDoor
