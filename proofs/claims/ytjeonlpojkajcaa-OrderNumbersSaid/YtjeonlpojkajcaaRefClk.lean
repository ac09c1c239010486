/-
  The walks of conventicleref18's Clerk.
-/
import Derived.Test.YtjeonlpojkajcaaClerk
import Derived.Test.YtjeonlpojkajcaaClerkM
namespace Go.Proofs.Ytjeonlpojkajcaa
open Go.RowKit

theorem updO_getD (f : Int → Option Int) (k v x : Int) : (updO f k v x).getD 0 = if x = k then v else (f x).getD 0 := by
  unfold updO
  split <;> simp

def numNx (nx : Int) (f : Int → Option Int) (s n : Int) : Int := if numErr nx f s n = 0 then nx + 1 else nx
def numF (nx : Int) (f : Int → Option Int) (s n : Int) : Int → Option Int := if numErr nx f s n = 0 then updO f s n else f
theorem numF_getD (nx : Int) (f : Int → Option Int) (s n x : Int) : (numF nx f s n x).getD 0 = if numErr nx f s n = 0 ∧ x = s then n else (f x).getD 0 := by
  unfold numF
  by_cases h : numErr nx f s n = 0
  · rw [if_pos h, updO_getD]
    simp [h]
  · rw [if_neg h, if_neg (fun e => h e.1)]

def upto (f : Int → Option Int) (n : Nat) : Int → Option Int := fun x => if 0 ≤ x ∧ x < n then some ((f x).getD 0) else none
theorem upto_zero (f : Int → Option Int) : upto f 0 = fun _ => none := by
  funext x
  unfold upto
  rw [if_neg (by omega)]
theorem upto_succ (f : Int → Option Int) (n : Nat) (c : Int) (h : (f n).getD 0 = c) : updO (upto f n) n c = upto f (n + 1) := by
  funext x
  unfold updO upto
  by_cases e : x = n
  · subst e
    rw [if_pos rfl, if_pos (by omega), h]
  · rw [if_neg e]
    by_cases h2 : 0 ≤ x ∧ x < n
    · rw [if_pos h2, if_pos (by omega)]
    · rw [if_neg h2, if_neg (by omega)]

/-- A reference Clerk at block r: its next number, the last one of each node. -/
structure RefAt (w : World) (r : Nat) (nx : Int) (f : Int → Option Int) : Prop where
  c0 : w.cell? ⟨r, 0, none⟩ = some (.int .u64 nx)
  ring : ∀ j : Nat, j < 64 → w.cell? ⟨r, 1 + j, none⟩ = some (.int .u64 ((f j).getD 0))
  free : ∀ j, j < 65 → w.frozen? ⟨r, j, none⟩ = false
  n0 : 0 ≤ nx
  n1 : nx ≤ 18446744073709551615

theorem RefAt.lt {w : World} {r : Nat} {nx : Int} {f : Int → Option Int} (h : RefAt w r nx f) : r < w.heap.size := block_lt_of_cell h.c0
theorem RefAt.mod {w w' : World} {r : Nat} {nx : Int} {f : Int → Option Int} {S : List Nat} (h : RefAt w r nx f) (hm : Mod S w w') (hs : r ∉ S) : RefAt w' r nx f :=
  ⟨(hm.cell h.lt hs).trans h.c0, fun j hj => (hm.cell h.lt hs).trans (h.ring j hj), fun j hj => (hm.frozen h.lt hs).trans (h.free j hj), h.n0, h.n1⟩
theorem RefAt.congr {w : World} {r : Nat} {nx : Int} {f g : Int → Option Int} (h : RefAt w r nx f) (e : ∀ j : Nat, j < 64 → (g j).getD 0 = (f j).getD 0) : RefAt w r nx g :=
  ⟨h.c0, fun j hj => by rw [e j hj]; exact h.ring j hj, h.free, h.n0, h.n1⟩
theorem RefAt.put {w : World} {r : Nat} {nx : Int} {f : Int → Option Int} (h : RefAt w r nx f) (k : Nat) (hk : k < 64) (v : Int) : RefAt (w.setCell ⟨r, 1 + k, none⟩ (.int .u64 v)) r nx (updO f k v) := by
  refine ⟨?_, fun j hj => ?_, fun j hj => by rw [World.frozen?_setCell]; exact h.free j hj, h.n0, h.n1⟩
  · rw [cell_set_off _ _ _ _ (by simp)]; exact h.c0
  · rw [updO_getD]
    by_cases e : j = k
    · subst e
      rw [if_pos rfl]
      exact cell_set_same (h.ring j hj)
    · rw [if_neg (by omega), cell_set_off _ _ _ _ (by simp; omega)]
      exact h.ring j hj
theorem RefAt.setNx {w : World} {r : Nat} {nx : Int} {f : Int → Option Int} (h : RefAt w r nx f) (v : Int) (h0 : 0 ≤ v) (h1 : v ≤ 18446744073709551615) : RefAt (w.setCell ⟨r, 0, none⟩ (.int .u64 v)) r v f := by
  refine ⟨cell_set_same h.c0, fun j hj => ?_, fun j hj => by rw [World.frozen?_setCell]; exact h.free j hj, h0, h1⟩
  rw [cell_set_off _ _ _ _ (by simp; omega)]
  exact h.ring j hj

set_option maxHeartbeats 400000 in
theorem rnode_is (n : Int) (b : Bool) (w : World) (h : isNode n = b) : Calls Try.prog 17 #[.int .i64 n] w fun e w' => e = .returned (.bool b) ∧ w = w' := by
  by_cases h0 : 0 ≤ n
  · by_cases h1 : n < 64
    · have hb : b = true := by rw [← h]; simp [isNode, h0, h1]
      subst hb
      clear h
      go_enter Try.func17, Try.ntmps17
      go_wp2
      go_ret
      exact ⟨rfl, rfl⟩
    · have hb : b = false := by rw [← h]; simp [isNode]; omega
      subst hb
      clear h
      go_enter Try.func17, Try.ntmps17
      go_wp2
      go_ret
      exact ⟨rfl, rfl⟩
  · have hb : b = false := by rw [← h]; simp [isNode]; omega
    subst hb
    clear h
    go_enter Try.func17, Try.ntmps17
    go_wp2
    go_ret
    exact ⟨rfl, rfl⟩

set_option maxHeartbeats 1000000 in
theorem rnext_any (r : Nat) (nx : Int) (f : Int → Option Int) (w : World) (h : RefAt w r nx f) :
    Calls Try.prog 11 #[.pointer (some ⟨r, 0, none⟩)] w fun e w' => e = .returned (.int .u64 nx) ∧ w = w' := by
  have h0 := h.c0
  clear h
  go_enter Try.func11, Try.ntmps11
  go_wp2
  go_ret
  exact ⟨rfl, rfl⟩

/-- What the reference's Last answers. -/
def lastOf (f : Int → Option Int) (n : Int) : Int := if isNode n = true then (f n).getD 0 else 0

set_option maxHeartbeats 1000000 in
theorem rlast_any (r : Nat) (nx : Int) (f : Int → Option Int) (n c : Int) (w : World) (h : RefAt w r nx f) (hc : lastOf f n = c) :
    Calls Try.prog 7 #[.pointer (some ⟨r, 0, none⟩), .int .i64 n] w fun e w' => e = .returned (.int .u64 c) ∧ w = w' := by
  cases hb : isNode n with
  | false =>
    have hc0 : c = 0 := by rw [← hc]; unfold lastOf; rw [hb]; rfl
    subst hc0
    have HB := Lib.hid hb
    clear hc hb h
    go_enter Try.func7, Try.ntmps7
    go_wp2_with (go_at_call 17; refine (rnode_is n false _ HB.out).mono ?_; rintro e w1 ⟨rfl, rfl⟩)
    go_ret
    exact ⟨rfl, rfl⟩
  | true =>
    have hcc : (f n).getD 0 = c := by rw [← hc]; unfold lastOf; rw [hb]; rfl
    have hn : 0 ≤ n ∧ n < 64 := by simpa [isNode] using hb
    obtain ⟨k, rfl⟩ : ∃ k : Nat, n = k := ⟨n.toNat, by omega⟩
    have hk : k < 64 := by omega
    have cc := h.ring k hk
    rw [hcc] at cc
    have HB := Lib.hid hb
    clear hc hb h hcc hn
    go_enter Try.func7, Try.ntmps7
    go_wp2_with (go_at_call 17; refine (rnode_is _ true _ HB.out).mono ?_; rintro e w1 ⟨rfl, rfl⟩)
    go_ret
    exact ⟨rfl, rfl⟩

def RNumPost (w : World) (r : Nat) (nx : Int) (f : Int → Option Int) (s n : Int) (e : Ending) (w' : World) : Prop :=
  e = .returned (.tuple #[.int .u64 (if numErr nx f s n = 0 then nx else 0), .int .i64 (numErr nx f s n)]) ∧ Mod [r] w w' ∧ RefAt w' r (numNx nx f s n) (numF nx f s n)

theorem rnum_same {w w' : World} {r : Nat} {nx : Int} {f : Int → Option Int} {s n er : Int} (h : RefAt w r nx f) (he : numErr nx f s n = er) (h0 : er ≠ 0) (hm : Mod [] w w') :
    RNumPost w r nx f s n (.returned (.tuple #[.int .u64 0, .int .i64 er])) w' := by
  subst he
  refine ⟨by rw [if_neg h0], hm.mono (by simp), ?_⟩
  unfold numNx numF
  rw [if_neg h0, if_neg h0]
  exact h.mod hm (by simp)

set_option maxRecDepth 100000 in
set_option maxHeartbeats 4000000 in
theorem rnumber_any (r : Nat) (nx : Int) (f : Int → Option Int) (s n : Int) (t : ByteArray) (w : World) (h : RefAt w r nx f) (n0 : 0 ≤ n) (n1 : n ≤ 18446744073709551615) (hf : 0 ≤ (f s).getD 0) :
    Calls Try.prog 9 #[.pointer (some ⟨r, 0, none⟩), .agg #[.int .i64 s, .int .u64 n, .string t]] w (RNumPost w r nx f s n) := by
  have H := Lib.hid h
  have hr := h.lt
  have h0 := h.c0
  have f0 := h.free 0 (by omega)
  have m0 := h.n0
  have m1 := h.n1
  clear h
  cases hb : isNode s with
  | false =>
    have he : numErr nx f s n = 1 := by unfold numErr; rw [if_pos (.inl hb)]
    have HE := Lib.hid he
    have HB := Lib.hid hb
    clear he hb
    go_enter Try.func9, Try.ntmps9
    go_wp2_with (go_at_call 17; refine (rnode_is s false _ HB.out).mono ?_; rintro e w1 ⟨rfl, rfl⟩)
    go_ret2
    exact rnum_same H.out HE.out (by decide) ((Mod.refl _ _).alloc _)
  | true =>
    have HB := Lib.hid hb
    have hn : 0 ≤ s ∧ s < 64 := by simpa [isNode] using hb
    obtain ⟨k, rfl⟩ : ∃ k : Nat, s = k := ⟨s.toNat, by omega⟩
    have hk : k < 64 := by omega
    by_cases hn0 : n = 0
    · have he : numErr nx f k n = 1 := by unfold numErr; rw [if_pos (.inr hn0)]
      have HE := Lib.hid he
      have hz : (n == 0) = true := by simpa using hn0
      clear he hb hn0 hn
      go_enter Try.func9, Try.ntmps9
      go_wp2_with (go_at_call 17; refine (rnode_is _ true _ HB.out).mono ?_; rintro e w1 ⟨rfl, rfl⟩)
      go_ret2
      exact rnum_same H.out HE.out (by decide) ((Mod.refl _ _).alloc _)
    have hz : (n == 0) = false := by simpa using hn0
    obtain ⟨c, hc⟩ : ∃ c, (f k).getD 0 = c := ⟨_, rfl⟩
    have hcell := H.out.ring k hk
    have hfk := H.out.free (1 + k) (by omega)
    rw [hc] at hcell hf
    have HC := Lib.hid hc
    clear hc hn
    by_cases hle : n ≤ c
    · have he : numErr nx f k n = 4 := by unfold numErr; rw [if_neg (by simp [hb, hn0]), HC.out, if_pos hle]
      have HE := Lib.hid he
      clear he hb hn0
      go_enter Try.func9, Try.ntmps9
      go_wp2_with (go_at_call 17; refine (rnode_is _ true _ HB.out).mono ?_; rintro e w1 ⟨rfl, rfl⟩)
      go_quiet (fail)
      go_wp2_with fail
      go_ret2
      exact rnum_same H.out HE.out (by decide) (((Mod.refl _ _).alloc _).drewN _)
    have hsub : (n - c) % 18446744073709551616 = n - c := by omega
    by_cases hgt : 1 < n - c
    · have he : numErr nx f k n = 120 := by unfold numErr; rw [if_neg (by simp [hb, hn0]), HC.out, if_neg hle, if_pos (by omega)]
      have HE := Lib.hid he
      clear he hb hn0
      go_enter Try.func9, Try.ntmps9
      go_wp2_with (go_at_call 17; refine (rnode_is _ true _ HB.out).mono ?_; rintro e w1 ⟨rfl, rfl⟩)
      go_quiet (fail)
      go_wp2_with fail
      go_ret2
      exact rnum_same H.out HE.out (by decide) (((Mod.refl _ _).alloc _).drewN _)
    have hn1 : n = c + 1 := by omega
    by_cases hnx : nx = 18446744073709551615
    · have he : numErr nx f k n = 60 := by unfold numErr; rw [if_neg (by simp [hb, hn0]), HC.out, if_neg hle, if_neg (by omega), if_pos hnx]
      have HE := Lib.hid he
      have hnm : (nx == 18446744073709551615) = true := by simpa using hnx
      clear he hb hn0 hnx hn1
      go_enter Try.func9, Try.ntmps9
      go_wp2_with (go_at_call 17; refine (rnode_is _ true _ HB.out).mono ?_; rintro e w1 ⟨rfl, rfl⟩)
      go_quiet (fail)
      go_wp2_with fail
      go_ret2
      exact rnum_same H.out HE.out (by decide) (((Mod.refl _ _).alloc _).drewN _)
    have he : numErr nx f k n = 0 := by unfold numErr; rw [if_neg (by simp [hb, hn0]), HC.out, if_neg hle, if_neg (by omega), if_neg hnx]
    have hnm : (nx == 18446744073709551615) = false := by simpa using hnx
    have hx1 : (nx + 1) % 18446744073709551616 = nx + 1 := by omega
    have hx2 : (nx + 1 - 1) % 18446744073709551616 = nx := by omega
    have HE := Lib.hid he
    clear he hb hn0 hnx hn1
    go_enter Try.func9, Try.ntmps9
    go_wp2_with (go_at_call 17; refine (rnode_is _ true _ HB.out).mono ?_; rintro e w1 ⟨rfl, rfl⟩)
    go_quiet (fail)
    go_wp2_with fail
    go_region
    have hR3 := (H.out.mod (((Mod.refl [] w).alloc (.cells #[.int .i64 (k : Int), .int .u64 n, .string t] 33)).drewN (nq + 1)) (by simp)).put k hk n
    have hM3 : Mod [r] w (((w.alloc (.cells #[.int .i64 (k : Int), .int .u64 n, .string t] 33)).drewN (nq + 1)).setCell ⟨r, 1 + k, none⟩ (.int .u64 n)) := (((Mod.refl _ _).alloc _).drewN _).setCell (.inl (by simp)) _
    generalize (((w.alloc (.cells #[.int .i64 (k : Int), .int .u64 n, .string t] 33)).drewN (nq + 1)).setCell ⟨r, 1 + k, none⟩ (.int .u64 n)) = W3 at hR3 hM3 ⊢
    clear h0 f0 hcell hfk
    have h0 := hR3.c0
    have f0 := hR3.free 0 (by omega)
    have hs0 := cell_set_same (v := .int .u64 (nx + 1)) h0
    have HR3 := Lib.hid hR3
    have HM3 := Lib.hid hM3
    clear hR3 hM3
    go_wp2_with fail
    go_ret2
    refine ⟨by rw [HE.out]; rfl, HM3.out.setCell (.inl (by simp)) _, ?_⟩
    unfold numNx numF
    rw [HE.out]
    exact HR3.out.setNx (nx + 1) (by omega) (by omega)

def RNewPost (w : World) (nx : Int) (f : Int → Option Int) (e : Ending) (w' : World) : Prop :=
  ∃ r, e = .returned (.pointer (some ⟨r, 0, none⟩)) ∧ w.heap.size ≤ r ∧ RefAt w' r (max 1 nx) f ∧ Mod [] w w'

theorem ref_start (w : World) (v : Int) (t : TypeId) (h0 : 0 ≤ v) (h1 : v ≤ 18446744073709551615) : RefAt (w.alloc (.cells ((Array.replicate 65 (Value.int .u64 0)).setIfInBounds 0 (.int .u64 v)) t)) w.heap.size v (fun _ => none) := by
  refine ⟨cell_in (heap_new _ _) (by simp), fun j hj => cell_in (heap_new _ _) ?_, fun j _ => free_in (heap_new _ _), h0, h1⟩
  rw [Array.getElem?_setIfInBounds_ne (by omega), Array.getElem?_replicate, if_pos (by omega)]
  rfl

theorem upto_cut (g : Int → Option Int) (j : Nat) (hj : j < 64) : (cutNode g j).getD 0 = (upto g 64 j).getD 0 := by
  unfold cutNode upto
  rw [if_pos (by simp [isNode]; omega), if_pos (by omega)]
  simp

set_option maxRecDepth 100000 in
set_option maxHeartbeats 4000000 in
theorem rnewclerk_map (nx : Int) (b szg : Nat) (g : Int → Option Int) (w : World) (h0 : 0 ≤ nx) (h1 : nx ≤ 18446744073709551615) (hg : OMap Try.prog 3 22 .u64 w b g szg) :
    Calls Try.prog 6 #[.int .u64 nx, .map (some b)] w (RNewPost w nx (cutNode g)) := by
  have HG := Lib.hid hg
  have H1 := Lib.hid h1
  clear hg h1
  have hz : ∀ w, (zeroValue 50).run Try.prog w = .ok (.agg (Array.replicate 65 (.int .u64 0))) w := fun w => by kernel_rfl
  go_enter Try.func6, Try.ntmps6
  go_wp2_with fail
  all_goals
    clear hz
    go_loopw [6] (fun v wr => ∃ n : Nat, v = .int .i64 n ∧ n ≤ 64 ∧ RefAt wr w.heap.size (max 1 nx) (upto g n) ∧ Mod [] w wr) (fun v _ => 64 - (intOf v).toNat)
    case atStart =>
      refine ⟨0, rfl, by omega, ?_, (Mod.refl _ _).alloc _⟩
      rw [upto_zero]
      first
        | (rw [show max 1 nx = nx by omega]; exact ref_start w nx _ h0 H1.out)
        | (rw [show max 1 nx = 1 by omega]; exact ref_start w 1 _ (by omega) (by omega))
    case round =>
      obtain ⟨n, rfl, hn, hR, hM⟩ := hrel
      by_cases hn64 : (n : Int) < 64
      · have hn64' : n < 64 := by omega
        obtain ⟨cc, hcc⟩ : ∃ cc, (g n).getD 0 = cc := ⟨_, rfl⟩
        have hlook := ((HG.out.mod hM (by simp)).drew).run_look 27 Try.underlying3 Try.underlying27 Try.underlying22 Try.zero_u64 n cc (WalkArith.wf_i64 ⟨by omega, by omega⟩) hcc
        have cc0 := hR.ring n hn64'
        have ff0 := hR.free (1 + n) (by omega)
        have HR := Lib.hid hR
        have HM := Lib.hid hM
        have HCC := Lib.hid hcc
        clear hR hM hcc
        go_wp2_with fail
        go_region
        go_wp2_with fail
        go_roundw
        case rel =>
          refine ⟨n + 1, by go_num, by omega, ?_, (HM.out.drew).setCell (.inr (by simp)) _⟩
          rw [← upto_succ g n cc HCC.out]
          exact (HR.out.mod (Mod.refl [] _).drew (by simp)).put n hn64' cc
        case measure => simp [intOf]; omega
      · have hne : n = 64 := by omega
        subst hne
        go_wp2_with fail
        go_ret
        exact ⟨w.heap.size, rfl, Nat.le_refl _, hR.congr (upto_cut g), hM⟩

end Go.Proofs.Ytjeonlpojkajcaa
