/-
  The walk of order.NewClerk over a map: it keeps what the nodes have.
-/
import Derived.Test.YtpbamamplmbgjaaGreatDoorClerk
namespace Go.Proofs.YtpbamamplmbgjaaGreatDoor
set_option linter.unusedSimpArgs false
set_option linter.unusedVariables false
open Go.RowKit
open Go.Maps (Keyed int_keyed)

def cutNode (g : Int → Option Int) : Int → Option Int := fun x => if isNode x = true then g x else none

def NewClerkPostM (w : World) (nx : Int) (s : Nat) (f : Int → Option Int) (e : Ending) (w' : World) : Prop :=
  ∃ d m sz, e = .returned (.pointer (some ⟨d, 0, none⟩)) ∧ w.heap.size ≤ d ∧ w.heap.size ≤ m ∧ sz ≤ s ∧ ClerkAt w' d m (max 1 nx) f sz ∧ Mod [] w w'

/-- Of the map g, those entries whose node has come. -/
def Come (g : Int → Option Int) (left : Lit → Bool) (f : Int → Option Int) : Prop := ∀ x, f x = if isNode x = true ∧ left (.int .i64 x) = false then g x else none

theorem come_start {g : Int → Option Int} {left : Lit → Bool} (h : ∀ x, left (.int .i64 x) = (g x).isSome) : Come g left (fun _ => none) := fun x => by
  show none = _
  by_cases hx : isNode x = true ∧ left (.int .i64 x) = false
  · rw [if_pos hx]
    have := (h x).symm.trans hx.2
    cases e : g x with
    | none => rfl
    | some v => rw [e] at this; cases this
  · rw [if_neg hx]
theorem come_end {g : Int → Option Int} {left : Lit → Bool} {f : Int → Option Int} (h : Come g left f) (hl : ∀ k, left k = false) : f = cutNode g := by
  funext x
  rw [h x]
  unfold cutNode
  by_cases hx : isNode x = true
  · rw [if_pos ⟨hx, hl _⟩, if_pos hx]
  · rw [if_neg (fun e => hx e.1), if_neg hx]
theorem same_int (x y : Int) : (Lit.int .i64 y).sameKey (.int .i64 x) = decide (y = x) := by
  by_cases h : y = x
  · subst h; simp [Lit.sameKey]
  · simp [Lit.sameKey, h]
theorem come_put {g : Int → Option Int} {left : Lit → Bool} {f : Int → Option Int} {x c : Int} (h : Come g left f) (hn : isNode x = true) (hg : g x = some c) : Come g (fun z => left z && !z.sameKey (.int .i64 x)) (updO f x c) := fun y => by
  unfold updO
  by_cases e : y = x
  · subst e
    rw [if_pos rfl, if_pos ⟨hn, by simp [same_int]⟩, hg]
  · rw [if_neg e, h y]
    simp [same_int, e]
theorem come_skip {g : Int → Option Int} {left : Lit → Bool} {f : Int → Option Int} {x : Int} (h : Come g left f) (hn : isNode x = false) : Come g (fun z => left z && !z.sameKey (.int .i64 x)) f := fun y => by
  rw [h y]
  by_cases e : y = x
  · subst e
    simp [hn]
  · simp [same_int, e]

structure NcInv (w : World) (b r n szg : Nat) (D : DataW Unit) (nx : Int) (g : Int → Option Int) (left : Lit → Bool) (cnt : Nat) (wr : World) (f : Int → Option Int) (sz : Nat) : Prop where
  rg : wr.ranges Tryz.prog 3 (plainElem Tryz.prog 22) b r n D left cnt
  clerk : ClerkAt wr (w.heap.size + 1) w.heap.size (max 1 nx) f sz
  sz : sz + cnt ≤ szg
  come : Come g left f
  has : ∀ x, left (.int .i64 x) = true → (g x).isSome = true
  mod : Mod [] w wr
  big : r < wr.heap.size

theorem nc_start (w : World) (b r n : Nat) (D : DataW Unit) (nx : Int) (g : Int → Option Int) (w0 : World) (h0 : 0 ≤ nx) (h1 : nx ≤ 18446744073709551615) (hh : ∀ k, Maps.has D (.int .i64 k) = (g k).isSome) (hs : Maps.size D = n)
    (hrg0 : w0.ranges Tryz.prog 3 (plainElem Tryz.prog 22) b r n D (Maps.has D) (Maps.size D)) (hg0 : ((w.alloc (.map #[] 0)).alloc (.cells #[.int .u64 (if 1 < nx then nx else 1), .map (some w.heap.size)] 340)).grownBy w0 none) (hs0 : w0.heap.size = r + 1) :
    NcInv w b r n n D nx g (Maps.has D) (Maps.size D) w0 (fun _ => none) 0 := by
  have hm0 : Mod [] ((w.alloc (.map #[] 0)).alloc (.cells #[.int .u64 (if 1 < nx then nx else 1), .map (some w.heap.size)] 340)) w0 := ⟨hg0.os, hg0.tape, hg0.output, hg0.size, fun k hk _ => hg0.block k hk (by simp)⟩
  have hv : (if 1 < nx then nx else 1) = max 1 nx := by split <;> omega
  refine ⟨hrg0, ?_, by omega, come_start hh, fun x hx => by rw [← hh x]; exact hx, ((((Mod.refl [] w).alloc _).alloc _).trans hm0), by omega⟩
  refine ClerkAt.mod (S := []) ?_ hm0 (by simp) (by simp)
  rw [hv]
  refine ⟨?_, ?_, ?_, by omega, (OMap.made Tryz.prog 3 22 .u64 w).mod ((Mod.refl [] _).alloc _) (by simp), by omega, by omega⟩
  · exact cell_in (heap_top _ _ _) rfl
  · exact cell_in (heap_top _ _ _) rfl
  · exact free_in (heap_top _ _ _)

set_option maxRecDepth 100000 in
set_option maxHeartbeats 4000000 in
theorem newclerk_map (nx : Int) (b szg : Nat) (g : Int → Option Int) (w : World) (h0 : 0 ≤ nx) (h1 : nx ≤ 18446744073709551615) (hg : OMap Tryz.prog 3 22 .u64 w b g szg) (hs : szg ≤ 1000000) :
    Calls Tryz.prog 180 #[.int .u64 nx, .map (some b)] w (NewClerkPostM w nx szg (cutNode g)) := by
  obtain ⟨D, n, hown, hhas, hat, hsize, rfl⟩ := hg
  have hmm := @run_makeMap Tryz.prog
  have hbl := hown.lt
  have H1 := Lib.hid h1
  have HH := Lib.hid hhas
  have HA := Lib.hid hat
  have HS := Lib.hid hsize
  clear h1 hhas hat hsize
  go_enter Tryz.func180, Tryz.ntmps180
  go_wp2_with (first
    | (at_range; refine wpList_range_own _ rfl _ 260 rfl 3 22 (int_keyed Tryz.underlying3) Tryz.underlying260 _ b _ _ rfl ((hown.alloc _).alloc _) ?_; intro w0 hrg0 hg0 hs0))
  all_goals try go_frame
  all_goals
    have e1 : ((w.alloc (.map #[] 0)).alloc (.cells #[.int .u64 (if 1 < nx then nx else 1), .map (some w.heap.size)] 340)).heap.size = w.heap.size + 1 + 1 := by simp
    rw [e1] at hrg0 hs0
    have hst := nc_start w b (w.heap.size + 1 + 1) n D nx g w0 h0 H1.out HH.out HS.out hrg0 hg0 hs0
    have HST := Lib.hid hst
    clear hst hrg0 hg0 hs0 hmm hown
    go_loopw [6] (fun _ wr => ∃ left cnt f sz, NcInv w b (w.heap.size + 1 + 1) n n D nx g left cnt wr f sz) (fun _ wr => wr.rangeLeft b (w.heap.size + 1 + 1))
    case atStart => exact ⟨_, _, _, _, HST.out⟩
    case round =>
      obtain ⟨left, cnt, f, sz, hinv⟩ := hrel
      have HI := Lib.hid hinv
      have hrg := hinv.rg
      clear hinv
      go_wp2_with (first
        | (at_next; refine wpList_next_ranges_ii _ rfl _ rfl 3 22 .i64 .u64 (int_keyed Tryz.underlying3) Tryz.underlying3 Tryz.underlying22 b (w.heap.size + 1 + 1) n _ _ _ rfl hrg ?_ ?_))
      · intro hc0 hl0
        go_wp2_with fail
        go_ret
        exact ⟨w.heap.size + 1, w.heap.size, sz, rfl, by omega, by omega, by have := HI.out.sz; omega, by rw [← come_end HI.out.come hl0]; exact HI.out.clerk, HI.out.mod⟩
      · intro x c w1 cnt1 hwx hwc hlx hat hrg1 hlt hg1 hs1 hen
        have hgx : g x = some c := by
          have h1 := HI.out.has x hlx
          have h2 := (hat (.lit (.int .u64 0))).symm.trans (HA.out x)
          cases hgv : g x with
          | none => rw [hgv] at h1; cases h1
          | some v =>
            rw [hgv] at h2
            injection h2 with h2
            injection h2 with _ h2
            rw [h2]
            rfl
        have hm1 : Mod [w.heap.size + 1 + 1] wr w1 := (Mod.refl _ _).grown hg1 (.inl (by simp))
        have hc1 := HI.out.clerk.mod hm1 (by simp) (by simp; omega)
        have hk1 := hc1.2.1
        have hmm1 := HI.out.mod.step hm1 (by simp; omega)
        have HX := Lib.hid (And.intro hwx hwc)
        have HL := Lib.hid hlt
        have HC1 := Lib.hid hc1
        have HOM := Lib.hid (show OMap Tryz.prog 3 22 .u64 w1 w.heap.size f sz from hc1.2.2.2.2.1)
        have HRG1 := Lib.hid hrg1
        have HGX := Lib.hid hgx
        have HMM1 := Lib.hid hmm1
        have HS1 := Lib.hid hs1
        have HLE := Lib.hid hrg.left_eq
        clear hwx hwc hlx hat hrg1 hlt hg1 hs1 hgx hm1 hc1 hmm1 hrg
        cases hb : isNode x with
        | false =>
          have HB := Lib.hid hb
          clear hb
          go_wp2_with (first | (go_at_call 176; refine (onode_is x false _ HB.out).mono ?_; rintro e w2 ⟨rfl, rfl⟩))
          go_roundw
          case rel => exact ⟨_, cnt1, f, sz, HRG1.out, HC1.out, by have := HI.out.sz; have := HL.out; omega, come_skip HI.out.come HB.out, fun y hy => HI.out.has y (by simp at hy; exact hy.1), HMM1.out, by have := HI.out.big; have := HS1.out; omega⟩
          case measure => rw [HRG1.out.left_eq, HLE.out]; exact HL.out
        | true =>
          have HB := Lib.hid hb
          clear hb
          go_wp2_with (first | (go_at_call 176; refine (onode_is x true _ HB.out).mono ?_; rintro e w2 ⟨rfl, rfl⟩) | (at_mapUpdate; (with_reducible refine wpList_omap_put (b := w.heap.size) rfl (.tmp 25) (.tmp 26) (.tmp 27) 260 rfl Tryz.underlying3 Tryz.underlying260 Tryz.underlying22 f sz rfl HOM.out ?o1 x c rfl rfl HX.out.1 HX.out.2 ?o2)))
          case o1 => have := HI.out.sz; unfold maxLen; omega
          case o2 =>
            intro w2 hmap hgr
            try go_frame
            have hrg2 := HRG1.out.kept hgr (fun e => by have := Option.some.inj e; omega) (fun e => by have := Option.some.inj e; omega)
            have hm2 : Mod [w.heap.size] w1 w2 := (Mod.refl _ _).grown hgr (.inl (by simp))
            have HRG2 := Lib.hid hrg2
            have HM2 := Lib.hid hm2
            have HMAP := Lib.hid hmap
            clear hmap hgr hrg2 hm2
            try go_wp2_with fail
            go_roundw
            case rel =>
              refine ⟨_, cnt1, updO f x c, sizeO f x sz, HRG2.out, ?_, ?_, come_put HI.out.come HB.out HGX.out, fun y hy => HI.out.has y (by simp at hy; exact hy.1), HMM1.out.step HM2.out (by simp), by have := HM2.out.size; have := HI.out.big; have := HS1.out; omega⟩
              · have hlt1 := block_lt_of_cell HC1.out.1
                exact ⟨(HM2.out.cell hlt1 (by simp)).trans HC1.out.1, (HM2.out.cell (p := ⟨w.heap.size + 1, 1, none⟩) hlt1 (by simp)).trans HC1.out.2.1, (HM2.out.frozen hlt1 (by simp)).trans HC1.out.2.2.1, HC1.out.2.2.2.1, HMAP.out, HC1.out.2.2.2.2.2⟩
              · have h1 := HI.out.sz
                have h2 := HL.out
                unfold sizeO
                split <;> omega
            case measure => rw [HRG2.out.left_eq, HLE.out]; exact HL.out

end Go.Proofs.YtpbamamplmbgjaaGreatDoor
