/-
  The walks of order's Clerk.
-/
import Derived.Test.YtpbamamplmbgjaaGreatDoorMaps
import Derived.Maps.RangeWalk
namespace Go.Proofs.YtpbamamplmbgjaaGreatDoor
set_option linter.unusedSimpArgs false
set_option linter.unusedVariables false
open Go.RowKit

/-- A Clerk at block d, whose map is block m. -/
def ClerkAt (w : World) (d m : Nat) (nx : Int) (f : Int → Option Int) (sz : Nat) : Prop :=
  w.cell? ⟨d, 0, none⟩ = some (.int .u64 nx) ∧ w.cell? ⟨d, 1, none⟩ = some (.map (some m)) ∧ w.frozen? ⟨d, 0, none⟩ = false ∧ d ≠ m ∧ OMap Tryz.prog 3 22 .u64 w m f sz ∧ 0 ≤ nx ∧ nx ≤ 18446744073709551615

theorem ClerkAt.mod {w w' : World} {d m sz : Nat} {nx : Int} {f : Int → Option Int} {S : List Nat} (h : ClerkAt w d m nx f sz) (hm : Mod S w w') (hd : d ∉ S) (hs : m ∉ S) : ClerkAt w' d m nx f sz := by
  obtain ⟨h1, h2, h3, h4, h5, h6⟩ := h
  have hlt : d < w.heap.size := by
    unfold World.cell? at h1
    rcases Nat.lt_or_ge d w.heap.size with h | h
    · exact h
    · rw [Array.getElem?_eq_none h] at h1
      cases h1
  exact ⟨(hm.cell hlt hd).trans h1, (hm.cell hlt hd).trans h2, (hm.frozen hlt hd).trans h3, h4, h5.mod hm hs, h6⟩

theorem Tryz.zero_u64 (w : World) : (zeroValue 22).run Tryz.prog w = .ok (.int .u64 0) w := by kernel_rfl

def NewClerkPost (w : World) (nx : Int) (f : Int → Option Int) (e : Ending) (w' : World) : Prop :=
  ∃ d m sz, e = .returned (.pointer (some ⟨d, 0, none⟩)) ∧ w.heap.size ≤ d ∧ w.heap.size ≤ m ∧ sz ≤ 64 ∧ ClerkAt w' d m (max 1 nx) f sz ∧ Mod [] w w'

theorem next_nilMap (W : World) (n : Nat) (ty : TypeId) (h : n = W.heap.size) :
    (Instr.next (.pointer (some ⟨n, 0, none⟩)) false ty).run Tryz.prog (W.alloc (.mapIter none 0 #[] 0)) = .ok (.tuple #[.bool false]) (W.alloc (.mapIter none 0 #[] 0)) := by
  subst h
  exact run_next_nilMap (P := Tryz.prog) W ty 0 0 #[]

theorem newclerk_end {w : World} {nx v : Int} {o : Obj} (hv : v = max 1 nx) (h0 : 0 ≤ nx) (h1 : nx ≤ 18446744073709551615) :
    NewClerkPost w nx (fun _ => none) (.returned (.pointer (some ⟨w.heap.size + 1, 0, none⟩))) (((w.alloc (.map #[] 0)).alloc (.cells #[.int .u64 v, .map (some w.heap.size)] 340)).alloc o) := by
  refine ⟨w.heap.size + 1, w.heap.size, 0, rfl, by omega, by omega, by omega, ?_, (((Mod.refl _ _).alloc _).alloc _).alloc _⟩
  refine ClerkAt.mod (S := []) (w := (w.alloc (.map #[] 0)).alloc (.cells #[.int .u64 v, .map (some w.heap.size)] 340)) ?_ ((Mod.refl _ _).alloc _) (by simp) (by simp)
  subst hv
  refine ⟨?_, ?_, ?_, by omega, (OMap.made Tryz.prog 3 22 .u64 w).mod ((Mod.refl [] _).alloc _) (by simp), by omega, by omega⟩
  · exact cell_in (heap_top _ _ _) rfl
  · exact cell_in (heap_top _ _ _) rfl
  · exact free_in (heap_top _ _ _)

set_option maxHeartbeats 1000000 in
theorem newclerk_nil (nx : Int) (w : World) (h0 : 0 ≤ nx) (h1 : nx ≤ 18446744073709551615) :
    Calls Tryz.prog 180 #[.int .u64 nx, .map none] w (NewClerkPost w nx (fun _ => none)) := by
  have H1 := Lib.hid h1
  clear h1
  have hmm := @run_makeMap Tryz.prog
  have hr := fun W => run_range_nilMap (P := Tryz.prog) W 260 3 22 Tryz.underlying260
  have hn := next_nilMap
  by_cases hx : 1 ≤ nx
  · go_enter Tryz.func180, Tryz.ntmps180
    go_wp2_with fail
    all_goals
      refine wp_loop_rounds 1 ?_
      rw [rounds_succ]
      go_wp2
      go_ret
      exact newclerk_end (by omega) h0 H1.out
  · go_enter Tryz.func180, Tryz.ntmps180
    go_wp2_with fail
    all_goals
      refine wp_loop_rounds 1 ?_
      rw [rounds_succ]
      go_wp2
      go_ret
      exact newclerk_end (by omega) h0 H1.out

/-- 'm is a node'. -/
def isNode (n : Int) : Bool := decide (0 ≤ n ∧ n < 64)

set_option maxHeartbeats 400000 in
theorem onode_any (n : Int) (w : World) : Calls Tryz.prog 176 #[.int .i64 n] w fun e w' => e = .returned (.bool (isNode n)) ∧ w = w' := by
  by_cases h0 : 0 ≤ n
  · by_cases h1 : n < 64
    · have hb : isNode n = true := by simp [isNode, h0, h1]
      have HB := Lib.hid hb
      clear hb
      go_enter Tryz.func176, Tryz.ntmps176
      go_wp2
      go_ret
      exact ⟨by rw [HB.out]; rfl, rfl⟩
    · have hb : isNode n = false := by simp [isNode]; omega
      have HB := Lib.hid hb
      clear hb
      go_enter Tryz.func176, Tryz.ntmps176
      go_wp2
      go_ret
      exact ⟨by rw [HB.out]; rfl, rfl⟩
  · have hb : isNode n = false := by simp [isNode]; omega
    have HB := Lib.hid hb
    clear hb
    go_enter Tryz.func176, Tryz.ntmps176
    go_wp2
    go_ret
    exact ⟨by rw [HB.out]; rfl, rfl⟩

theorem onode_is (n : Int) (b : Bool) (w : World) (h : isNode n = b) : Calls Tryz.prog 176 #[.int .i64 n] w fun e w' => e = .returned (.bool b) ∧ w = w' := h ▸ onode_any n w

/-- What Number answers: its error, 0 if none. -/
def numErr (nx : Int) (f : Int → Option Int) (s n : Int) : Int :=
  if isNode s = false ∨ n = 0 then 1 else if n ≤ (f s).getD 0 then 4 else if n ≠ (f s).getD 0 + 1 then 120 else if nx = 18446744073709551615 then 60 else 0

/-- Number's end. -/
def NumPost (w : World) (d m sz : Nat) (nx : Int) (f : Int → Option Int) (s n : Int) (e : Ending) (w' : World) : Prop :=
  e = .returned (.tuple #[.int .u64 (if numErr nx f s n = 0 then nx else 0), .int .i64 (numErr nx f s n)]) ∧ Mod [d, m] w w' ∧
    ∃ sz', sz' ≤ sz + 1 ∧ ClerkAt w' d m (if numErr nx f s n = 0 then nx + 1 else nx) (if numErr nx f s n = 0 then updO f s n else f) sz'

theorem num_same {w w' : World} {d m sz : Nat} {nx : Int} {f : Int → Option Int} {s n er : Int} (h : ClerkAt w d m nx f sz) (he : numErr nx f s n = er) (h0 : er ≠ 0) (hm : Mod [] w w') :
    NumPost w d m sz nx f s n (.returned (.tuple #[.int .u64 0, .int .i64 er])) w' := by
  subst he
  refine ⟨by rw [if_neg h0], hm.mono (by simp), sz, by omega, ?_⟩
  rw [if_neg h0, if_neg h0]
  exact h.mod hm (by simp) (by simp)

set_option maxRecDepth 100000 in
set_option maxHeartbeats 4000000 in
theorem number_any (d m sz : Nat) (nx : Int) (f : Int → Option Int) (s n : Int) (t : ByteArray) (w : World) (h : ClerkAt w d m nx f sz) (hsz : sz < 1000000) (hs : (Lit.int .i64 s).wf = true) (n0 : 0 ≤ n) (n1 : n ≤ 18446744073709551615) (hf : 0 ≤ (f s).getD 0) :
    Calls Tryz.prog 290 #[.pointer (some ⟨d, 0, none⟩), .agg #[.int .i64 s, .int .u64 n, .string t]] w (NumPost w d m sz nx f s n) := by
  have H := Lib.hid h
  obtain ⟨h1, h2, h3, h4, h5, h6, h7⟩ := h
  have hdm : d < w.heap.size ∧ m < w.heap.size := by
    refine ⟨?_, h5.lt⟩
    unfold World.cell? at h1
    rcases Nat.lt_or_ge d w.heap.size with h | h
    · exact h
    · rw [Array.getElem?_eq_none h] at h1
      cases h1
  obtain ⟨hdl, hml⟩ := hdm
  obtain ⟨c, hc⟩ : ∃ c, (f s).getD 0 = c := ⟨_, rfl⟩
  rw [hc] at hf
  have hlook := (((h5.alloc (.cells #[.int .i64 s, .int .u64 n, .string t] 189)).drew)).run_look 260 Tryz.underlying3 Tryz.underlying260 Tryz.underlying22 Tryz.zero_u64 s c hs hc
  have HC := Lib.hid hc
  have H5 := Lib.hid h5
  have HS := Lib.hid hs
  have H7 := Lib.hid h7
  have N1 := Lib.hid n1
  clear hc h5 hs h7 n1
  cases hb : isNode s with
  | false =>
    have he : numErr nx f s n = 1 := by unfold numErr; rw [if_pos (.inl hb)]
    have HE := Lib.hid he
    have HB := Lib.hid hb
    clear he hb
    go_enter Tryz.func290, Tryz.ntmps290
    go_wp2_with fail
    go_region
    go_wp2_with (go_at_call 176; refine (onode_is s false _ HB.out).mono ?_; rintro e w1 ⟨rfl, rfl⟩)
    go_ret2
    exact num_same H.out HE.out (by decide) ((Mod.refl _ _).alloc _).drew
  | true =>
    have HB := Lib.hid hb
    by_cases hn0 : n = 0
    · have he : numErr nx f s n = 1 := by unfold numErr; rw [if_pos (.inr hn0)]
      have HE := Lib.hid he
      have hz : (n == 0) = true := by simpa using hn0
      clear he hb hn0
      go_enter Tryz.func290, Tryz.ntmps290
      go_wp2_with fail
      go_region
      go_wp2_with (go_at_call 176; refine (onode_is s true _ HB.out).mono ?_; rintro e w1 ⟨rfl, rfl⟩)
      go_ret2
      exact num_same H.out HE.out (by decide) ((Mod.refl _ _).alloc _).drew
    have hz : (n == 0) = false := by simpa using hn0
    have hp : 0 < n := by omega
    by_cases hle : n ≤ c
    · have he : numErr nx f s n = 4 := by unfold numErr; rw [if_neg (by simp [hb, hn0]), HC.out, if_pos hle]
      have HE := Lib.hid he
      clear he hb hn0
      go_enter Tryz.func290, Tryz.ntmps290
      go_wp2_with fail
      go_region
      go_wp2_with (go_at_call 176; refine (onode_is s true _ HB.out).mono ?_; rintro e w1 ⟨rfl, rfl⟩)
      go_ret2
      exact num_same H.out HE.out (by decide) ((Mod.refl _ _).alloc _).drew
    have hc1 : c + 1 ≤ 18446744073709551615 := by have := N1.out; omega
    have hcw : (c + 1) % 18446744073709551616 = c + 1 := by omega
    by_cases hne : n = c + 1
    · by_cases hnx : nx = 18446744073709551615
      · have he : numErr nx f s n = 60 := by unfold numErr; rw [if_neg (by simp [hb, hn0]), HC.out, if_neg hle, if_neg (by omega), if_pos hnx]
        have HE := Lib.hid he
        have hnq : (n != c + 1) = false := by simpa using hne
        have hnm : (nx == 18446744073709551615) = true := by simpa using hnx
        clear he hb hn0 hnx hne
        go_enter Tryz.func290, Tryz.ntmps290
        go_wp2_with fail
        go_region
        go_wp2_with (go_at_call 176; refine (onode_is s true _ HB.out).mono ?_; rintro e w1 ⟨rfl, rfl⟩)
        go_ret2
        exact num_same H.out HE.out (by decide) ((Mod.refl _ _).alloc _).drew
      · have he : numErr nx f s n = 0 := by unfold numErr; rw [if_neg (by simp [hb, hn0]), HC.out, if_neg hle, if_neg (by omega), if_neg hnx]
        have hN7 : (Lit.int .u64 n).wf = true := WalkArith.wf_u64 ⟨n0, N1.out⟩
        obtain ⟨w3, hput, hO3, hgr⟩ := (((H5.out.alloc (.cells #[.int .i64 s, .int .u64 n, .string t] 189)).drew).drew).run_put 260 Tryz.underlying3 Tryz.underlying260 Tryz.underlying22 (by simp [maxLen]; omega) s n HS.out hN7
        have hmod : Mod [m] w w3 := ((((Mod.refl [m] w).alloc (.cells #[.int .i64 s, .int .u64 n, .string t] 189)).drew).drew).grown hgr (.inl (by simp))
        have hk0 : w3.cell? ⟨d, 0, none⟩ = some (.int .u64 nx) := (hmod.cell hdl (by simpa using h4)).trans h1
        have hk1 : w3.cell? ⟨d, 1, none⟩ = some (.map (some m)) := (hmod.cell hdl (by simpa using h4)).trans h2
        have hf0 : w3.frozen? ⟨d, 0, none⟩ = false := (hmod.frozen hdl (by simpa using h4)).trans h3
        have h70 := H7.out
        have hx1 : (nx + 1) % 18446744073709551616 = nx + 1 := by omega
        have hx2 : (nx + 1 - 1) % 18446744073709551616 = nx := by omega
        have hs3 := cell_set_same (v := .int .u64 (nx + 1)) hk0
        have hnq : (n != c + 1) = false := by simpa using hne
        have hnm : (nx == 18446744073709551615) = false := by simpa using hnx
        have fin : NumPost w d m sz nx f s n (.returned (.tuple #[.int .u64 nx, .int .i64 0])) (w3.setCell ⟨d, 0, none⟩ (.int .u64 (nx + 1))) := by
          refine ⟨by rw [he]; rfl, (hmod.mono (fun k _ hk => by simp at hk; simp [hk])).setCell (.inl (by simp)) _, sizeO f s sz, by unfold sizeO; split <;> omega, ?_⟩
          rw [he]
          refine ⟨hs3, ?_, ?_, h4, hO3.mod (S := [d]) ((Mod.refl _ _).setCell (.inl (by simp)) _) (by simp; omega), by simp; omega, by simp; omega⟩
          · rw [cell_set_off _ _ _ _ (by simp)]
            exact hk1
          · rw [World.frozen?_setCell]
            exact hf0
        have FIN := Lib.hid fin
        have HGR := Lib.hid hgr
        have HMOD := Lib.hid hmod
        clear he hb hn0 hnx fin hgr hO3 hmod hne
        go_enter Tryz.func290, Tryz.ntmps290
        go_wp2_with fail
        go_region
        go_wp2_with (go_at_call 176; refine (onode_is s true _ HB.out).mono ?_; rintro e w1 ⟨rfl, rfl⟩)
        go_region
        go_wp2_with fail
        go_ret2
        exact FIN.out
    · have he : numErr nx f s n = 120 := by unfold numErr; rw [if_neg (by simp [hb, hn0]), HC.out, if_neg hle, if_pos hne]
      have HE := Lib.hid he
      have hnq : (n != c + 1) = true := by simpa using hne
      clear he hb hn0
      go_enter Tryz.func290, Tryz.ntmps290
      go_wp2_with fail
      go_region
      go_wp2_with (go_at_call 176; refine (onode_is s true _ HB.out).mono ?_; rintro e w1 ⟨rfl, rfl⟩)
      go_ret2
      exact num_same H.out HE.out (by decide) ((Mod.refl _ _).alloc _).drew

end Go.Proofs.YtpbamamplmbgjaaGreatDoor
