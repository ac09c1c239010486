/-
  The walk of a member's Found, alone.
-/
import Derived.Test.YtaaaiggbnkeblaaGreatDoorMTopN
import Derived.Test.YtaaaiggbnkeblaaGreatDoorMTopW
import Derived.Test.YtaaaiggbnkeblaaGreatDoorMTopF
import Derived.Test.YtaaaiggbnkeblaaGreatDoorMTopFt
import Derived.Test.YtaaaiggbnkeblaaGreatDoorMBase
import Derived.Deep.RegionHeldLaw
import Derived.Deep.AppendLies
namespace Go.Proofs.YtaaaiggbnkeblaaGreatDoor
set_option linter.unusedSimpArgs false
set_option linter.unusedVariables false
open Go.RowKit

theorem row_new {w : World} {o : Obj} {k : Nat} (hk : k = w.heap.size) : (w.alloc o).heap[k]? = some o := by subst hk; exact heap_new w o
theorem row_alloc {w : World} {o x : Obj} {k : Nat} (h : w.heap[k]? = some x) : (w.alloc o).heap[k]? = some x := row_keep ((Mod.refl [] w).alloc o) h
theorem row_drew {w : World} {x : Obj} {k : Nat} (h : w.heap[k]? = some x) : w.drew.heap[k]? = some x := h
theorem row_ne {w : World} {a b : Nat} {x y : Obj} (ha : w.heap[a]? = some x) (hb : w.heap[b]? = some y) (h : x ≠ y) : a ≠ b := by
  intro e
  subst e
  rw [ha] at hb
  exact h (Option.some.inj hb)

/-- A sitting's cells. -/
def sitCells (H T L R : Nat) (ck : Option Addr) (met done quiet : Int) : Array Value :=
  #[.int .u64 1, .int .u64 1, .pointer (some ⟨H, 0, none⟩), .pointer (some ⟨T, 0, none⟩), .pointer ck, .int .u64 met, .map (some L), .int .u64 done, .int .u64 0, .map (some R), .int .i64 quiet, .bool false]
noncomputable def shelfCells : Array Value := Tryz.zeroCells273

/-- What install has made. -/
def Made (w : World) (S H T L R : Nat) : Prop :=
  w.heap[S]? = some (.cells (sitCells H T L R none 0 0 0) 233 (0, 0)) ∧ w.heap[H]? = some (.cells shelfCells 273 (0, 0)) ∧ Turn0 w T 0 1 1 ∧ w.heap[L]? = some (.map #[] 0) ∧ w.heap[R]? = some (.map #[] 0)

/-- What stands beside the node while it installs. -/
structure InsEnv (w : World) (D K r B S H T L R : Nat) (ck : Option Addr) : Prop where
  det : DetAt w D r 0
  desk : DeskAt w K 0 0 []
  tab : Tab w
  box : w.heap[B]? = some (.cells #[.int .u64 1, .int .u64 1] 25 (0, 0))
  sit : RowAt w S (sitCells H T L R ck 0 0 0)
  shelf : w.heap[H]? = some (.cells shelfCells 273 (0, 0))
  turn : Turn0 w T 0 1 1
  last : w.heap[L]? = some (.map #[] 0)
  reach : w.heap[R]? = some (.map #[] 0)
theorem InsEnv.mod {X : List Nat} {w w' : World} {D K r B S H T L R : Nat} {ck : Option Addr} (h : InsEnv w D K r B S H T L R ck) (hm : Mod X w w') (hX : D ∉ X ∧ K ∉ X ∧ r ∉ X ∧ 1 ∉ X ∧ B ∉ X ∧ S ∉ X ∧ H ∉ X ∧ T ∉ X ∧ L ∉ X ∧ R ∉ X) : InsEnv w' D K r B S H T L R ck :=
  ⟨h.det.mod hm hX.1 hX.2.2.1, h.desk.mod hm hX.2.1, h.tab.mod hm hX.2.2.2.1, row_mod hm h.box hX.2.2.2.2.1, h.sit.mod hm hX.2.2.2.2.2.1, row_mod hm h.shelf hX.2.2.2.2.2.2.1, h.turn.mod hm hX.2.2.2.2.2.2.2.1, row_mod hm h.last hX.2.2.2.2.2.2.2.2.1, row_mod hm h.reach hX.2.2.2.2.2.2.2.2.2⟩
theorem InsEnv.mod0 {w w' : World} {D K r B S H T L R : Nat} {ck : Option Addr} (h : InsEnv w D K r B S H T L R ck) (hm : Mod [] w w') : InsEnv w' D K r B S H T L R ck := h.mod hm (by simp)

def objTy : Obj → Nat
  | .cells _ t _ => t
  | .map _ _ => 1000001
  | _ => 1000002
theorem row_nety (tx ty : Nat) {w : World} {a b : Nat} {x y : Obj} (ha : w.heap[a]? = some x) (hb : w.heap[b]? = some y) (hx : objTy x = tx) (hy : objTy y = ty) (h : tx ≠ ty) : a ≠ b :=
  row_ne ha hb (fun e => h (by rw [← hx, ← hy, e]))
/-- An event that a node installed the first view, as cells. -/
def evIn : List Value := [.int .i64 1, .int .u64 1, .int .u64 1, .int .u64 0, .int .i64 0, .int .u64 0, .string ⟨#[]⟩]
theorem infoEvent : ∃ i, Tryz.prog.info? 162 = some i ∧ i.zero = some (.agg #[.int .i64 0, .int .u64 0, .int .u64 0, .int .u64 0, .int .i64 0, .int .u64 0, .string ⟨#[]⟩]) ∧ i.size = 7 ∧ i.bytes ≤ 128 := by
  have h : (Tryz.prog.info? 162).map (fun i => (i.zero, i.size, decide (i.bytes ≤ 128))) = some (some (.agg #[.int .i64 0, .int .u64 0, .int .u64 0, .int .u64 0, .int .i64 0, .int .u64 0, .string ⟨#[]⟩]), 7, true) := by kernel_rfl
  cases hi : Tryz.prog.info? 162 with
  | none => rw [hi] at h; cases h
  | some i =>
    rw [hi] at h
    simp at h
    exact ⟨i, rfl, h.1, h.2.1, h.2.2⟩

/-- A member that has installed the first view: its blocks, and its events. -/
structure Inst (w : World) (N D K r S H T L R C m sz : Nat) (ev : Value) : Prop where
  node : NodeAt w N D K (some ⟨S, 0, none⟩) ev 1
  det : DetAt w D r 0
  desk : DeskAt w K 0 0 []
  tab : Tab w
  sit : RowAt w S (sitCells H T L R (some ⟨C, 0, none⟩) 0 0 0)
  shelf : w.heap[H]? = some (.cells shelfCells 273 (0, 0))
  turn : Turn0 w T 0 1 1
  last : w.heap[L]? = some (.map #[] 0)
  reach : w.heap[R]? = some (.map #[] 0)
  clerk : ClerkAt w C m 1 (fun _ => none) sz
  size : sz ≤ 64

/-- The sitting's blocks are not one another. -/
def Apart (S H T L R C m : Nat) : Prop :=
  (S ≠ H ∧ S ≠ T ∧ S ≠ L ∧ S ≠ R) ∧ (H ≠ T ∧ H ≠ L ∧ H ≠ R) ∧ (T ≠ L ∧ T ≠ R ∧ L ≠ R) ∧ (S < C ∧ H < C ∧ T < C ∧ L < C ∧ R < C) ∧ (S < m ∧ H < m ∧ T < m ∧ L < m ∧ R < m) ∧ C ≠ m

def InstPost (w : World) (N D K r : Nat) (e : Ending) (w' : World) : Prop :=
  e = .returned (.tuple #[]) ∧ ∃ S H T L R C m sz g cap, Inst w' N D K r S H T L R C m sz (.slice (some ⟨g, 0, none⟩) 1 cap) ∧ w'.ownsRow w.heap.size 162 7 (.slice (some ⟨g, 0, none⟩) 1 cap) 1 evIn ∧
    (w.heap.size ≤ S ∧ w.heap.size ≤ H ∧ w.heap.size ≤ T ∧ w.heap.size ≤ L ∧ w.heap.size ≤ R ∧ w.heap.size ≤ C ∧ w.heap.size ≤ m ∧ L ≠ R) ∧ Apart S H T L R C m ∧ Mod [N] w w'

set_option maxRecDepth 100000 in
set_option maxHeartbeats 8000000 in
theorem install0 (N D K r : Nat) (w : World) (h : NodeAt w N D K none (.slice none 0 0) 0) (hd : DetAt w D r 0) (hk : DeskAt w K 0 0 []) (ht : Tab w) (hb : D ≠ r ∧ N ≠ D ∧ N ≠ r ∧ N ≠ K ∧ N ≠ 1) :
    Calls Tryz.prog 120 #[.pointer (some ⟨N, 0, none⟩), .agg #[.int .u64 1, .int .u64 1]] w (InstPost w N D K r) := by
  have hmm := @run_makeMap Tryz.prog
  have hl := h.lt
  have hne : ¬ N = w.heap.size := by omega
  have HMw := Lib.hid ((Mod.refl [] w).alloc (.cells #[.int .u64 1, .int .u64 1] 25))
  have HB := Lib.hid (heap_new w (.cells #[.int .u64 1, .int .u64 1] 25))
  have H := Lib.hid (h.mod HMw.out (by simp))
  have HD := Lib.hid (hd.mod HMw.out (by simp) (by simp))
  have HK := Lib.hid (hk.mod HMw.out (by simp))
  have HT := Lib.hid (ht.mod HMw.out (by simp))
  have hDr := hd.lt
  have hRr := hd.roll0.lt
  have hKr : K < w.heap.size := by
    obtain ⟨_, _, hraw, _⟩ := hk
    exact hraw.lt
  have h0r := ht.1
  have HX := Lib.hid hb
  have HLT := Lib.hid (And.intro hDr (And.intro hRr (And.intro hKr h0r)))
  clear hDr hRr hKr h0r
  clear h hd hk ht hb
  go_enter Tryz.func120, Tryz.ntmps120
  go_upto_region 1 with fail
  generalize hB : w.heap.size = B at HB hne ⊢
  generalize w.alloc (.cells #[.int .u64 1, .int .u64 1] 25) = W0 at HMw HB H HD HK HT ⊢
  have c4 := H.out.c4
  obtain ⟨head, rr, hraw, _⟩ := HK.out
  have HRAW := Lib.hid hraw
  clear hraw
  go_wp2_with fail
  refine (dnum_any K 0 0 head _ rr _ HRAW.out).mono ?_
  rintro e w1 ⟨rfl, rfl⟩
  go_wp2_with fail
  refine (nwaits_any N D K none (.slice none 0 0) 0 0 0 [] _ H.out HK.out (by simp)).mono ?_
  rintro e w2 ⟨rfl, hM2⟩
  have HM2 := Lib.hid (HMw.out.trans hM2)
  replace H := Lib.hid (H.out.mod hM2 (by simp))
  replace HD := Lib.hid (HD.out.mod hM2 (by simp) (by simp))
  replace HK := Lib.hid (HK.out.mod hM2 (by simp))
  replace HT := Lib.hid (HT.out.mod hM2 (by simp))
  replace HB := Lib.hid (row_keep hM2 HB.out)
  clear hM2 HMw c4 HRAW
  go_upto_region 2 with fail
  have b0 : w2.cell? ⟨B, 0, none⟩ = some (.int .u64 1) := cell_in HB.out rfl
  have b1 : w2.cell? ⟨B, 1, none⟩ = some (.int .u64 1) := cell_in HB.out rfl
  have n2 := H.out.c2
  have KEEP : ∀ w', Mod [] w2 w' → w'.cell? ⟨B, 0, none⟩ = some (.int .u64 1) ∧ w'.cell? ⟨B, 1, none⟩ = some (.int .u64 1) ∧ w'.cell? ⟨N, 2, none⟩ = some (.int .i64 0) := fun w' hm => ⟨hm.at b0 (by simp), hm.at b1 (by simp), hm.at n2 (by simp)⟩
  replace KEEP := Lib.hid KEEP
  go_cut [5] (fun s5 wx => ∃ S H T L R, s5 = .pointer (some ⟨S, 0, none⟩) ∧ Made wx S H T L R ∧ (w2.heap.size ≤ S ∧ w2.heap.size ≤ H ∧ w2.heap.size ≤ T ∧ w2.heap.size ≤ L ∧ w2.heap.size ≤ R ∧ L ≠ R) ∧ Mod [] w2 wx)
  case first =>
    go_region_held_law (fun w' => w'.cell? ⟨B, 0, none⟩ = some (.int .u64 1) ∧ w'.cell? ⟨B, 1, none⟩ = some (.int .u64 1) ∧ w'.cell? ⟨N, 2, none⟩ = some (.int .i64 0)) (exact KEEP.out _ (by repeat (first | with_reducible exact HM5.out | with_reducible exact Mod.refl [] _ | with_reducible refine Mod.drew ?_ | with_reducible refine Mod.alloc ?_ _))) ((go_at_call 5; refine (turn_new 0 1 1 _ (by decide) (by decide) (by decide)).mono ?_; rintro e w5 ⟨T, rfl, hT, hTs, hM5⟩; have HM5 := Lib.hid (show Mod [] w2 w5 from Mod.trans (by repeat (first | with_reducible exact Mod.refl [] _ | with_reducible refine Mod.drew ?_ | with_reducible refine Mod.alloc ?_ _)) hM5); have HT5 := Lib.hid hT; have hs5 := hM5.size; have HC5 := Lib.hid hM5; have HTS := Lib.hid hTs; clear hM5 hT hTs))
    all_goals
      go_wp2_with fail
      go_meet
      case rel =>
        refine ⟨_, _, _, _, _, rfl, ⟨row_new (by simp), ?_, ?_, ?_, ?_⟩, ?_, by repeat (first | with_reducible exact HM5.out | with_reducible exact Mod.refl [] _ | with_reducible refine Mod.drew ?_ | with_reducible refine Mod.alloc ?_ _)⟩
        · unfold shelfCells
          repeat (first | (with_reducible refine row_new ?_; simp; done) | with_reducible refine row_alloc ?_ | with_reducible refine row_drew ?_ | with_reducible refine row_keep HC5.out ?_)
        · unfold Turn0
          repeat (first | with_reducible refine row_alloc ?_ | with_reducible refine row_drew ?_)
          exact HT5.out
        · repeat (first | (with_reducible refine row_new ?_; simp; done) | with_reducible refine row_alloc ?_ | with_reducible refine row_drew ?_ | with_reducible refine row_keep HC5.out ?_)
        · repeat (first | (with_reducible refine row_new ?_; simp; done) | with_reducible refine row_alloc ?_ | with_reducible refine row_drew ?_ | with_reducible refine row_keep HC5.out ?_)
        · have h1 := HTS.out
          simp at h1 hs5 ⊢
          omega
  case rest =>
    obtain ⟨S, H', T, L, R, rfl, hmade, hbd, hmc⟩ := hcut
    have HE := Lib.hid (show InsEnv wc D K r B S H' T L R none from ⟨HD.out.mod hmc (by simp) (by simp), HK.out.mod hmc (by simp), HT.out.mod hmc (by simp), row_keep hmc HB.out, RowAt.of_row hmade.1 (by simp [sitCells]), hmade.2.1, hmade.2.2.1, hmade.2.2.2.1, hmade.2.2.2.2⟩)
    have hNl : N < w2.heap.size := H.out.lt
    have hBl : B < w2.heap.size := (Array.getElem?_eq_some_iff.1 HB.out).1
    have HNE := Lib.hid (show D ∉ [N] ∧ K ∉ [N] ∧ r ∉ [N] ∧ 1 ∉ [N] ∧ B ∉ [N] ∧ S ∉ [N] ∧ H' ∉ [N] ∧ T ∉ [N] ∧ L ∉ [N] ∧ R ∉ [N] by
      have := HX.out
      simp only [List.mem_singleton]
      omega)
    have hSl : S < wc.heap.size := (Array.getElem?_eq_some_iff.1 hmade.1).1
    have HBD := Lib.hid (show (w.heap.size ≤ S ∧ w.heap.size ≤ H' ∧ w.heap.size ≤ T ∧ w.heap.size ≤ L ∧ w.heap.size ≤ R ∧ L ≠ R) ∧ S ≠ H' ∧ S ≠ T ∧ S ≠ L ∧ S ≠ R ∧ H' ≠ T ∧ H' ≠ L ∧ H' ≠ R ∧ T ≠ L ∧ T ≠ R from by
      have := HM2.out.size
      refine ⟨by omega, row_nety 233 273 hmade.1 hmade.2.1 rfl rfl (by decide), row_nety 233 92 hmade.1 hmade.2.2.1 rfl rfl (by decide), row_nety 233 1000001 hmade.1 hmade.2.2.2.1 rfl rfl (by decide), row_nety 233 1000001 hmade.1 hmade.2.2.2.2 rfl rfl (by decide), row_nety 273 92 hmade.2.1 hmade.2.2.1 rfl rfl (by decide), row_nety 273 1000001 hmade.2.1 hmade.2.2.2.1 rfl rfl (by decide), row_nety 273 1000001 hmade.2.1 hmade.2.2.2.2 rfl rfl (by decide), row_nety 92 1000001 hmade.2.2.1 hmade.2.2.2.1 rfl rfl (by decide), row_nety 92 1000001 hmade.2.2.1 hmade.2.2.2.2 rfl rfl (by decide)⟩)
    have HM0S := Lib.hid (show S ≠ B from row_nety 233 25 hmade.1 (row_keep hmc HB.out) rfl rfl (by decide))
    have HMC := Lib.hid (HM2.out.trans hmc)
    replace H := Lib.hid (H.out.mod hmc (by simp))
    clear b0 b1 n2 KEEP hmade hbd hmc HD HK HT HB hNl hBl HM2
    have b0 : wc.cell? ⟨B, 0, none⟩ = some (.int .u64 1) := cell_in HE.out.box rfl
    have b1 : wc.cell? ⟨B, 1, none⟩ = some (.int .u64 1) := cell_in HE.out.box rfl
    have c0 := H.out.c0
    have c1 := H.out.c1
    have c9 := H.out.c9
    have c8 := H.out.c8
    have f0 := H.out.free 0
    have f1 := H.out.free 1
    have f9 := H.out.free 9
    have f8 := H.out.free 8
    have hNB : ¬ B = N := fun e => hne e.symm
    go_wp2_with fail
    go_cut [] (fun wx => NodeAt wx N D K (some ⟨S, 0, none⟩) (.slice none 0 0) 1 ∧ Mod [N] wc wx)
    case first =>
      go_region
      all_goals
        go_wp2_with fail
        go_meet
        case rel => exact ⟨H.out.seat S 1, ((((Mod.refl [N] wc).setCell (.inl (by simp)) _).setCell (.inl (by simp)) _).setCell (.inl (by simp)) _).setCell (.inl (by simp)) _ |>.drew⟩
    case rest =>
      obtain ⟨hn3, hm3⟩ := hcut
      replace HE := Lib.hid (HE.out.mod hm3 HNE.out)
      replace HMC := Lib.hid ((HMC.out.mono (by simp)).trans hm3)
      have HN := Lib.hid hn3
      clear b0 b1 c0 c1 c9 c8 f0 f1 f9 f8 hm3 hn3 H
      have b1 : wc.cell? ⟨B, 1, none⟩ = some (.int .u64 1) := cell_in HE.out.box rfl
      have c6 := HN.out.c6
      have f6 := HN.out.free 6
      have hbits : bits .andNot .u64 0 1 = 0 := by decide
      go_wp2_with fail
      go_cut [] (fun wx => NodeAt wx N D K (some ⟨S, 0, none⟩) (.slice none 0 0) 1 ∧ Mod [N] wc wx)
      case first =>
        go_region
        all_goals
          go_wp2_with fail
          go_meet
          case rel => exact ⟨(HN.out.setSame c6).mod (Mod.refl [] _).drew (by simp), ((Mod.refl [N] wc).setCell (.inl (by simp)) _).drew⟩
      case rest =>
        obtain ⟨hn4, hm4⟩ := hcut
        replace HE := Lib.hid (HE.out.mod hm4 HNE.out)
        replace HMC := Lib.hid (HMC.out.trans hm4)
        replace HN := Lib.hid hn4
        clear b1 c6 f6 hm4 hn4 hbits
        have b1 : wc.cell? ⟨B, 1, none⟩ = some (.int .u64 1) := cell_in HE.out.box rfl
        go_wp2_with fail
        refine (blist_is 1 [0] bits_one (by decide) _ HE.out.tab).mono ?_
        rintro e w5 ⟨v, rfl, hO, hM5⟩
        obtain ⟨a5, c5, rfl, hr5, hnc5, _⟩ := hO.shape
        obtain ⟨ad5, rfl, hlt5, hc5⟩ := hr5 (by simp)
        have l0 := hc5 0 0 rfl
        simp only [Addr.add, if_true] at l0
        replace HE := Lib.hid (HE.out.mod0 hM5)
        replace HN := Lib.hid (HN.out.mod hM5 (by simp))
        replace HMC := Lib.hid (HMC.out.trans (hM5.mono (by simp)))
        clear hO hr5 hnc5 hc5 hM5 b1
        go_wp2_with fail
        refine wp_loop_rounds 2 ?_
        rw [rounds_succ]
        go_wp2_with fail
        have c3 := HN.out.c3
        go_region_held3 (fun w' => w'.cell? ⟨N, 3, none⟩ = some (.pointer (some ⟨D, 0, none⟩))) (first | exact c3 | exact HM6.out.at c3 (by simp) | exact HM7.out.at c3 (by simp)) ((first | (go_at_call 13; refine (new_any none 0 [] _ (fun h => absurd rfl h) (by simp) (by simp)).mono ?_; rintro e w6 ⟨ld, lg, rfl, _, _, _, hM6⟩; have HM6 := Lib.hid ((Mod.refl [] w5).drew.trans hM6); clear hM6) | (go_at_call 12; refine (know0 D r 0 _ _ (HE.out.mod0 HM6.out).det (HE.out.mod0 HM6.out).tab).mono ?_; rintro e w7 ⟨rfl, hM7⟩; have HM7 := Lib.hid (HM6.out.trans hM7); clear hM7)))
        have hcut := HM7.out
        replace HE := Lib.hid (HE.out.mod0 hcut)
        replace HN := Lib.hid (HN.out.mod hcut (by simp))
        replace HMC := Lib.hid (HMC.out.trans (hcut.mono (by simp)))
        clear c3 l0 hcut HM6 HM7
        have b1 : w7.cell? ⟨B, 1, none⟩ = some (.int .u64 1) := cell_in HE.out.box rfl
        go_wp2_with fail
        rw [rounds_succ]
        go_wp2_with fail
        refine (first_is 1 0 (by decide) (by decide) (by decide) _ HE.out.tab).mono ?_
        rintro e w8 ⟨rfl, rfl⟩
        have c2 := HN.out.c2
        go_wp2_with fail
        refine (newclerk_nil 1 _ (by decide) (by decide)).mono ?_
        rintro e w9 ⟨C, m, sz, rfl, hC, hm, hsz, hCl, hM9⟩
        have hw7 : w.heap.size ≤ w7.heap.size := HMC.out.size
        have hS7 : S < w7.heap.size := HE.out.sit.lt
        have hrl := HE.out
        have hH7 : H' < w7.heap.size := (Array.getElem?_eq_some_iff.1 hrl.shelf).1
        have hT7 : T < w7.heap.size := hrl.turn.lt
        have hL7 : L < w7.heap.size := (Array.getElem?_eq_some_iff.1 hrl.last).1
        have hR7 : R < w7.heap.size := (Array.getElem?_eq_some_iff.1 hrl.reach).1
        clear hrl
        replace HE := Lib.hid (HE.out.mod0 hM9)
        replace HN := Lib.hid (HN.out.mod hM9 (by simp))
        replace HMC := Lib.hid (HMC.out.trans (hM9.mono (by simp)))
        have HCL := Lib.hid hCl
        have hCm := hCl.2.2.2.1
        have HCB := Lib.hid (show w.heap.size ≤ C ∧ w.heap.size ≤ m ∧ sz ≤ 64 ∧ S ≠ C ∧ S ≠ m ∧ (S < C ∧ H' < C ∧ T < C ∧ L < C ∧ R < C) ∧ (S < m ∧ H' < m ∧ T < m ∧ L < m ∧ R < m) ∧ C ≠ m from by omega)
        clear hH7 hT7 hL7 hR7 hCm
        clear hC hm hsz hCl hM9 b1 c2 hw7 hS7
        have s4 := HE.out.sit.2.1 4 (.pointer none) rfl
        have f4 := HE.out.sit.2.2 4
        go_upto_region 13 with fail
        have hXS : D ∉ [S] ∧ K ∉ [S] ∧ r ∉ [S] ∧ 1 ∉ [S] ∧ B ∉ [S] ∧ H' ∉ [S] ∧ T ∉ [S] ∧ L ∉ [S] ∧ R ∉ [S] ∧ N ∉ [S] ∧ C ∉ [S] ∧ m ∉ [S] := by
          have h1 := HLT.out
          have h2 := HBD.out
          have h3 := HCB.out
          have h4 := HM0S.out
          simp only [List.mem_singleton]
          have h5 := HX.out
          omega
        have hm10 : Mod [S] w9 (w9.setCell ⟨S, 4, none⟩ (.pointer (some ⟨C, 0, none⟩))) := (Mod.refl _ _).setCell (.inl (by simp)) _
        have H10 := Lib.hid (And.intro (HE.out.sit.set (cs' := sitCells H' T L R (some ⟨C, 0, none⟩) 0 0 0) (k := 4) (v := .pointer (some ⟨C, 0, none⟩)) rfl (by simp [sitCells])) hm10)
        have hD10 := HE.out.det.mod hm10 hXS.1 hXS.2.2.1
        have hK10 := HE.out.desk.mod hm10 hXS.2.1
        have hT10 := HE.out.tab.mod hm10 hXS.2.2.2.1
        have hB10 := row_mod hm10 HE.out.box hXS.2.2.2.2.1
        have hH10 := row_mod hm10 HE.out.shelf hXS.2.2.2.2.2.1
        have hU10 := HE.out.turn.mod hm10 hXS.2.2.2.2.2.2.1
        have hL10 := row_mod hm10 HE.out.last hXS.2.2.2.2.2.2.2.1
        have hR10 := row_mod hm10 HE.out.reach hXS.2.2.2.2.2.2.2.2.1
        have hN10 := HN.out.mod hm10 hXS.2.2.2.2.2.2.2.2.2.1
        have hC10 := HCL.out.mod hm10 hXS.2.2.2.2.2.2.2.2.2.2.1 hXS.2.2.2.2.2.2.2.2.2.2.2
        have hM10 := HMC.out.setCell (p := ⟨S, 4, none⟩) (.inr (by have := HBD.out; show w.heap.size ≤ S; omega)) (.pointer (some ⟨C, 0, none⟩))
        have h10 := H10.out.1
        generalize w9.setCell ⟨S, 4, none⟩ (.pointer (some ⟨C, 0, none⟩)) = W at hD10 hK10 hT10 hB10 hH10 hU10 hL10 hR10 hN10 hC10 hM10 h10 ⊢
        have HF := Lib.hid (And.intro hD10 (And.intro hK10 (And.intro hT10 (And.intro hH10 (And.intro hU10 (And.intro hL10 (And.intro hR10 (And.intro hC10 (And.intro hM10 h10)))))))))
        have HNW := Lib.hid hN10
        have b0 : W.cell? ⟨B, 0, none⟩ = some (.int .u64 1) := cell_in hB10 rfl
        have b1 : W.cell? ⟨B, 1, none⟩ = some (.int .u64 1) := cell_in hB10 rfl
        have c5 := hN10.c5
        have f5 := hN10.free 5
        have bl : B < W.heap.size := (Array.getElem?_eq_some_iff.1 hB10).1
        have nl := hN10.lt
        clear hXS hm10 H10 hD10 hK10 hT10 hB10 hH10 hU10 hL10 hR10 hN10 hC10 hM10 h10 s4 f4 HE HN HMC HCL
        obtain ⟨ie, hie, hiz, his, hib⟩ := infoEvent
        have hev1 : ((W.alloc (.cells #[.int .i64 1, .int .u64 1, .int .u64 1, .int .u64 0, .int .i64 0, .int .u64 0, .string ⟨#[]⟩] 162)).drew).heap[W.heap.size]? = some (.cells #[.int .i64 1, .int .u64 1, .int .u64 1, .int .u64 0, .int .i64 0, .int .u64 0, .string ⟨#[]⟩] 162 (0, 0)) := heap_new_drew _ _
        have HEV := Lib.hid (World.news_of_block hev1)
        clear hev1
        go_region_law (refine step_append_lies _ rfl (.tmp 98) (.tmp 101) 223 rfl w.heap.size 162 ie _ 7 ie.bytes Tryz.underlying223 hie hiz his rfl rfl (by decide) (.slice none 0 0) 0 [] (by simp [Act.eval, Act.put]) ⟨rfl, .inl ⟨rfl, rfl⟩⟩ ⟨W.heap.size, 0, none⟩ 1 1 evIn (by simp [Act.eval, Act.put]) rfl HEV.out (by decide) (by decide) (by decide) (by omega) (by have := HF.out.2.2.2.2.2.2.2.2.1.size; simp; omega) _ rfl ?_; intro g cap w1 hown hgrow hat hlt; have HMG := Lib.hid (show Mod [] W w1 from Mod.grown_none (by repeat (first | with_reducible exact Mod.refl [] _ | with_reducible refine Mod.drew ?_ | with_reducible refine Mod.alloc ?_ _)) hgrow); have n5 := HMG.out.at c5 (by simp); have g5 := (HMG.out.frozen (p := ⟨N, 5, none⟩) nl (by simp)).trans f5; have HOWN := Lib.hid hown; clear hown hgrow hat hlt)
        all_goals
          go_wp2_with fail
          refine bodyPost_end (results_none rfl _ _ _) rfl ?_
          obtain ⟨hD, hK, hT, hH, hU, hL, hR, hC, hM, h10⟩ := HF.out
          have hNE := HNE.out
          have hCB := HCB.out
          have hm' : Mod [N] W (w1.setCell ⟨N, 5, none⟩ (.slice (some ⟨g, 0, none⟩) 1 cap)) := (HMG.out.mono (by simp)).setCell (.inl (by simp)) _
          have hg := (ownsRow_ge HOWN.out g rfl).1
          refine ⟨rfl, S, H', T, L, R, C, m, sz, g, cap, ⟨(HNW.out.mod HMG.out (by simp)).setEv _, hD.mod hm' hNE.1 hNE.2.2.1, hK.mod hm' hNE.2.1, hT.mod hm' hNE.2.2.2.1, h10.mod hm' hNE.2.2.2.2.2.1, row_mod hm' hH hNE.2.2.2.2.2.2.1, hU.mod hm' hNE.2.2.2.2.2.2.2.1, row_mod hm' hL hNE.2.2.2.2.2.2.2.2.1, row_mod hm' hR hNE.2.2.2.2.2.2.2.2.2, hC.mod hm' (by simp; omega) (by simp; omega), hCB.2.2.1⟩, ?_, ?_, ?_, ?_⟩
          · refine ownsRow_mod HOWN.out ((Mod.refl [N] w1).setCell (.inl (by simp)) _) (fun b hb => ?_)
            obtain rfl : g = b := by simpa [Value.ownBlock] using hb
            simp
            omega
          · have := HBD.out
            omega
          · have := HBD.out
            unfold Apart
            refine ⟨⟨this.2.1, this.2.2.1, this.2.2.2.1, this.2.2.2.2.1⟩, ⟨this.2.2.2.2.2.1, this.2.2.2.2.2.2.1, this.2.2.2.2.2.2.2.1⟩, ⟨this.2.2.2.2.2.2.2.2.1, this.2.2.2.2.2.2.2.2.2, this.1.2.2.2.2.2⟩, hCB.2.2.2.2.2.1, hCB.2.2.2.2.2.2.1, hCB.2.2.2.2.2.2.2⟩
          · exact hM.trans hm'

open Go.RowKit

set_option maxRecDepth 100000 in
set_option maxHeartbeats 4000000 in
theorem found0 (N D K r : Nat) (w : World) (h : NodeAt w N D K none (.slice none 0 0) 0) (hd : DetAt w D r 0) (hk : DeskAt w K 0 0 []) (ht : Tab w) (hb : D ≠ r ∧ N ≠ D ∧ N ≠ r ∧ N ≠ K ∧ N ≠ 1) :
    Calls Tryz.prog 68 #[.pointer (some ⟨N, 0, none⟩), .int .u64 1] w fun e w' => e = .returned (.int .i64 0) ∧ InstPost w N D K r (.returned (.tuple #[])) w' := by
  have HI := Lib.hid (install0 N D K r w h hd hk ht hb)
  have c2 := h.c2
  have c8 := h.c8
  have c9 := h.c9
  have c10 := h.c10
  clear h hd hk ht hb
  go_enter Tryz.func68, Tryz.ntmps68
  go_wp2_with fail
  refine (has_is 1 0 true (by decide) (by decide) _).mono ?_
  rintro e w1 ⟨rfl, rfl⟩
  go_wp2_with fail
  refine HI.out.mono ?_
  rintro e w2 hI
  obtain ⟨rfl, hI2⟩ := hI
  have HI2 := Lib.hid (show InstPost w N D K r (.returned (.tuple #[])) w2 from ⟨rfl, hI2⟩)
  clear hI2
  go_wp2_with fail
  go_ret
  exact ⟨rfl, HI2.out⟩

end Go.Proofs.YtaaaiggbnkeblaaGreatDoor
