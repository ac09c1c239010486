/-
  TopKnown: Tick of a detector of a calm group that has no watch.
-/
import Derived.Deep.RegionLaw
import Derived.Test.YtaaaiggbnkeblaaGreatDoorMKnN
import Derived.Test.YtaaaiggbnkeblaaGreatDoorMKnT
namespace Go.Proofs.YtaaaiggbnkeblaaGreatDoor
set_option linter.unusedSimpArgs false
set_option linter.unusedVariables false
open Go.RowKit

theorem KS.At.at0 {K : KS} {w : World} {G : List Nat} {n d r : Nat} (h : K.At w G n) (hd : K.d = d) (hr : K.r = r) : w.cell? ⟨d, 0, none⟩ = some (.pointer (some ⟨r, 0, none⟩)) := by rw [← hd, ← hr]; exact h.roll
theorem KS.At.at2 {K : KS} {w : World} {G : List Nat} {n d : Nat} (h : K.At w G n) (hd : K.d = d) : w.cell? ⟨d, 2, none⟩ = some (.int .i64 K.me) := by rw [← hd]; exact h.me
theorem KS.At.at5 {K : KS} {w : World} {G : List Nat} {n d : Nat} (h : K.At w G n) (hd : K.d = d) : w.cell? ⟨d, 5, none⟩ = some K.W := by rw [← hd]; exact h.wat
theorem KS.At.at6 {K : KS} {w : World} {G : List Nat} {n d : Nat} (h : K.At w G n) (hd : K.d = d) : w.cell? ⟨d, 6, none⟩ = some (.slice none 0 0) := by rw [← hd]; exact h.err
theorem KS.At.at8 {K : KS} {w : World} {G : List Nat} {n d : Nat} (h : K.At w G n) (hd : K.d = d) : w.cell? ⟨d, 8, none⟩ = some (.int .u64 K.x) := by rw [← hd]; exact h.now
theorem KS.At.fr {K : KS} {w : World} {G : List Nat} {n d : Nat} (h : K.At w G n) (hd : K.d = d) (j : Nat) : w.frozen? ⟨d, j, none⟩ = false := by rw [← hd]; exact h.free j
theorem set_same_mod {w : World} {a : Addr} {v : Value} (h : w.cell? a = some v) : ∀ b, (w.setCell a v).cell? b = w.cell? b := set_same_cells h
/-- A cell of it is written with what it holds. -/
theorem KS.At.again {K : KS} {w : World} {G : List Nat} {n j : Nat} {v : Value} (h : K.At w G n) (hv : w.cell? ⟨K.d, j, none⟩ = some v) : K.At (w.setCell ⟨K.d, j, none⟩ v) G n := by
  have hm : Mod [K.d] w (w.setCell ⟨K.d, j, none⟩ v) := (Mod.refl _ _).setCell (.inl (by simp)) _
  have hr : K.r ∉ [K.d] := by simpa using h.ne.1.symm
  have hb : K.b ∉ [K.d] := by simpa using h.ne.2.1.symm
  have c := set_same_cells hv
  refine ⟨(c _).trans h.roll, ?_, (c _).trans h.me, (c _).trans h.rum, (c _).trans h.dou, (c _).trans h.wat, (c _).trans h.err, (c _).trans h.seq, (c _).trans h.now, (c _).trans h.gone, fun j => (World.frozen?_setCell _ _ _ _).trans (h.free j), h.calm.mod hm hr, h.q.kept hm hb, h.len, h.ne, h.inG, fun g hg => Nat.lt_of_lt_of_le (h.lo g hg) hm.size⟩
  obtain ⟨a, cc, h1, h2, h3, h4, h5, h6, h7⟩ := h.left
  refine ⟨a, cc, (c _).trans h1, (World.frozen?_setCell _ _ _ _).trans h2, h3, h4, h5, Nat.lt_of_lt_of_le h6 hm.size, fun hne => ?_⟩
  obtain ⟨g, off, ha, hg, hlt, hc⟩ := h7 hne
  exact ⟨g, off, ha, hg, Nat.lt_of_lt_of_le hlt hm.size, fun j x hj => (c _).trans (hc j x hj)⟩

def KS.nowAt (K : KS) (x : Int) : KS := { K with x := x }
def KS.watchAt (K : KS) (W : Value) : KS := { K with W := W }
def KS.seqAt (K : KS) (s : Int) : KS := { K with s := s }
theorem KS.At.later' {K : KS} {w : World} {G : List Nat} {n d : Nat} (h : K.At w G n) (hd : K.d = d) (x : Int) : (K.nowAt x).At (w.setCell ⟨d, 8, none⟩ (.int .u64 x)) G n := by rw [← hd]; exact h.later x
theorem KS.At.watched' {K : KS} {w : World} {G : List Nat} {n d : Nat} (h : K.At w G n) (hd : K.d = d) (W : Value) : (K.watchAt W).At (w.setCell ⟨d, 5, none⟩ W) G n := by rw [← hd]; exact h.watched W
theorem KS.At.again' {K : KS} {w : World} {G : List Nat} {n d j : Nat} {v : Value} (h : K.At w G n) (hd : K.d = d) (hv : w.cell? ⟨d, j, none⟩ = some v) : K.At (w.setCell ⟨d, j, none⟩ v) G n := by rw [← hd] at hv ⊢; exact h.again hv

theorem ping_at {K : KS} {w : World} {G : List Nat} {n d : Nat} (h : K.At w G n) (hd : K.d = d) : Calls Tryz.prog 57 #[.pointer (some ⟨d, 0, none⟩)] w fun e w' => ∃ s, e = .returned (.int .u64 s) ∧ (K.seqAt s).At w' G n ∧ Mod [d] w w' := by
  rw [← hd]
  exact ping_is h

theorem say_at {K : KS} {w : World} {G : List Nat} {n t d me b : Nat} (kd s fo : Int) (h : K.At w G n) (ht : Tab w) (hn : 2 ≤ n ∧ n ≤ 6) (hf : K.has = 2 ^ n - 1) (hd : K.d = d) (hme : K.me = me) (hb : K.b = b) (hmn : me < n) (htn : t < n) :
    Calls Tryz.prog 52 #[.pointer (some ⟨d, 0, none⟩), .agg #[.int .i64 kd, .int .i64 0, .int .i64 t, .int .u64 s, .int .i64 fo, .slice none 0 0]] w fun e w' => ∃ (g m c : Nat) (L : List Nat), e = .returned (.agg #[.int .i64 kd, .int .i64 me, .int .i64 t, .int .u64 s, .int .i64 fo, .slice (some ⟨g, 0, none⟩) m c]) ∧ Upds w' w.heap.size (.slice (some ⟨g, 0, none⟩) m c) (L.map calmU) ∧ (0 < L.length ∧ L.length ≤ 7) ∧ (∀ x ∈ L, x < n) ∧ K.At w' G n ∧ Mod [b] w w' := by
  subst hd hme hb
  refine (say_is kd s fo h ht hn hf hmn htn).mono fun e w' ⟨v, L, he, hU, h0, h7, hL, hA, hM⟩ => ?_
  obtain ⟨g, c, rfl, _, _⟩ := hU.form (by rw [List.length_map]; exact h0)
  exact ⟨g, _, c, L, he, hU, ⟨h0, h7⟩, hL, hA, hM⟩

def KTickPost (K : KS) (G : List Nat) (n dl gl : Nat) (w : World) (e : Ending) (w' : World) : Prop :=
  ∃ (j : Nat) (s x : Int) (Lr : List Int) (wb cw g cg : Nat) (v : Value) (Ln : List Nat) (ls' : List Int), j < n ∧ j ≠ K.me ∧ e = .returned (.slice (some ⟨g, 0, none⟩) 1 cg) ∧ KRow w' g [.int .i64 1, .int .i64 K.me, .int .i64 j, .int .u64 s, .int .i64 0, v] ∧ Upds w' w.heap.size v (Ln.map calmU) ∧ (0 < Ln.length ∧ Ln.length ≤ 7) ∧ (∀ x ∈ Ln, x < n) ∧
    ({ K with L := Lr, W := .slice (some ⟨wb, 0, none⟩) 1 cw, s := s, x := x } : KS).At w' (wb :: G) n ∧ KRow w' wb (watchV j s x) ∧ (1 ≤ cw ∧ cw ≤ maxLen) ∧ (w.heap.size ≤ wb ∧ w.heap.size ≤ g ∧ 1 ≤ cg ∧ cg ≤ maxLen) ∧ LotsAt w' dl gl ls' ∧ Mod [K.d, K.b, dl] w w'

/-- Where Tick stands: the detector, its own variable, the lots, what has turned. -/
def TickSt (K0 K : KS) (G : List Nat) (n dl gl B : Nat) (ls : List Int) (w0 w : World) : Prop := K.At w G n ∧ w.heap[B]? = some (.cells #[.pointer (some ⟨K0.d, 0, none⟩)] 51 (0, 0)) ∧ LotsAt w dl gl ls ∧ Mod [K0.d, K0.b, dl] w0 w ∧ Tab w
theorem TickSt.next {K0 K K' : KS} {G S : List Nat} {n dl gl B : Nat} {ls : List Int} {w0 w w' : World} (h : TickSt K0 K G n dl gl B ls w0 w) (hm : Mod S w w') (hA : K'.At w' G n) (hS : ∀ s ∈ S, s ∈ [K0.d, K0.b, dl]) (hB : B ∉ S) (hl : dl ∉ S) (hg : gl ∉ S) (ht : 1 ∉ S) : TickSt K0 K' G n dl gl B ls w0 w' :=
  ⟨hA, row_mod hm h.2.1 hB, h.2.2.1.mod hm hl hg, h.2.2.2.1.trans (hm.wide hS), h.2.2.2.2.mod hm ht⟩
theorem TickSt.b {K0 K : KS} {G : List Nat} {n dl gl B d : Nat} {ls : List Int} {w0 w : World} (h : TickSt K0 K G n dl gl B ls w0 w) (hd : K0.d = d) : w.cell? ⟨B, 0, none⟩ = some (.pointer (some ⟨d, 0, none⟩)) := by rw [← hd]; exact cell_in h.2.1 rfl
theorem TickSt.same {K0 K : KS} {G : List Nat} {n dl gl B : Nat} {ls : List Int} {w0 w w' : World} (h : TickSt K0 K G n dl gl B ls w0 w) (hm : Mod [] w w') : TickSt K0 K G n dl gl B ls w0 w' :=
  h.next hm (h.1.same hm) (by simp) (by simp) (by simp) (by simp) (by simp)

set_option maxRecDepth 100000 in
set_option maxHeartbeats 8000000 in
theorem tick_is {K : KS} {w : World} {G : List Nat} {n dl gl : Nat} {ls : List Int} (h : K.At w G n) (ht : Tab w) (hn : 2 ≤ n ∧ n ≤ 6) (hf : K.has = 2 ^ n - 1) (hme : K.me < n) (hW : ∃ a c, K.W = .slice a 0 c) (hL : LotsAt w dl gl ls) (hdG : dl ∈ G) (hap : (K.d ≠ dl ∧ K.r ≠ dl ∧ K.b ≠ dl) ∧ K.d ≠ gl ∧ K.r ≠ gl ∧ K.b ≠ gl) (htab : ∀ g ∈ G, g ≠ 1) :
    Calls Tryz.prog 14 #[.pointer (some ⟨K.d, 0, none⟩), .pointer (some ⟨dl, 0, none⟩)] w (KTickPost K G n dl gl w) := by
  have hmf : ∀ fn first cap w, (Instr.makeFunc fn first cap).run Tryz.prog w = .ok (.func fn first cap) w := fun _ _ _ _ => rfl
  obtain ⟨wa, wc0, hW⟩ := hW
  have HX := Lib.hid (And.intro hn (And.intro hf (And.intro hme (And.intro hdG (And.intro hap htab)))))
  have HG0 := Lib.hid h.inG
  have HLO := Lib.hid h.lo
  have HNE := Lib.hid h.ne
  obtain ⟨d, hd⟩ : ∃ d, K.d = d := ⟨_, rfl⟩
  obtain ⟨r, hr⟩ : ∃ r, K.r = r := ⟨_, rfl⟩
  have HE := Lib.hid (And.intro hd hr)
  have hdl : d < w.heap.size := by rw [← hd]; exact h.lt
  have c9 : w.cell? ⟨d, 9, none⟩ = some (.bool false) := by rw [← hd]; exact h.gone
  have c8 := h.at8 hd
  have f8 := h.fr hd 8
  have hne : ¬ d = w.heap.size := by omega
  have hne2 : ¬ w.heap.size = d := by omega
  obtain ⟨x0, hx0⟩ : ∃ x0, K.x = x0 := ⟨_, rfl⟩
  rw [hx0] at c8
  have hs : ∀ x1 : Int, (w.setCell ⟨d, 8, none⟩ (.int .u64 x1)).heap.size = w.heap.size := fun x1 => by simp [World.setCell]
  have HW1 := Lib.hid (show ∀ x1 : Int, TickSt K (K.nowAt x1) G n dl gl w.heap.size ls w ((w.setCell ⟨d, 8, none⟩ (.int .u64 x1)).alloc (.cells #[.pointer (some ⟨d, 0, none⟩)] 51)) from fun x1 => by
    have hA := h.later' hd x1
    have hm : Mod [K.d] w (w.setCell ⟨d, 8, none⟩ (.int .u64 x1)) := by rw [hd]; exact (Mod.refl _ _).setCell (.inl (by simp)) _
    have hb := heap_new (w.setCell ⟨d, 8, none⟩ (.int .u64 x1)) (.cells #[.pointer (some ⟨d, 0, none⟩)] 51)
    rw [hs] at hb
    refine ⟨hA.same ((Mod.refl [] _).alloc _), by rw [hd]; exact hb, (hL.mod hm (by simpa using hap.1.1.symm) (by simpa using hap.2.1.symm)).mod ((Mod.refl [] _).alloc _) (by simp) (by simp), (hm.wide (by simp)).alloc _, (ht.mod hm (by simpa using (htab _ h.inG.1).symm)).mod ((Mod.refl [] _).alloc _) (by simp)⟩)
  clear h ht hs hL hn hf hme hdG hap htab hx0
  rw [hd]
  go_enter Tryz.func14, Tryz.ntmps14
  go_upto_region 4 with fail
  have HS := Lib.hid (HW1.out (IntKind.u64.wrap (x0 + 1)))
  generalize IntKind.u64.wrap (x0 + 1) = x1 at HS ⊢
  obtain ⟨B, hB⟩ : ∃ B, w.heap.size = B := ⟨_, rfl⟩
  have HB := Lib.hid hB
  rw [hB] at HS hne hne2 hdl ⊢
  generalize (w.setCell ⟨d, 8, none⟩ (.int .u64 x1)).alloc (.cells #[.pointer (some ⟨d, 0, none⟩)] 51) = W1 at HS ⊢
  clear c9 c8 f8 HW1 hB hr hd
  have b1 := HS.out.b HE.out.1
  have c5 : W1.cell? ⟨d, 5, none⟩ = some (.slice wa 0 wc0) := by rw [← hW]; exact HS.out.1.at5 HE.out.1
  have f5 := HS.out.1.fr HE.out.1 5
  have HS2 := Lib.hid (show TickSt K ((K.nowAt x1).watchAt (.slice none 0 0)) G n dl gl B ls w (W1.setCell ⟨d, 5, none⟩ (.slice none 0 0)) from HS.out.next (S := [d]) ((Mod.refl [d] W1).setCell (.inl (by simp)) _) (HS.out.1.watched' HE.out.1 _) (by simp [HE.out.1]) (by simp; omega) (by rw [← HE.out.1]; simpa using HX.out.2.2.2.2.1.1.1.symm) (by rw [← HE.out.1]; simpa using HX.out.2.2.2.2.1.2.1.symm) (by rw [← HE.out.1]; simpa using (HX.out.2.2.2.2.2 _ HG0.out.1).symm))
  go_upto_region 6 with fail
  generalize W1.setCell ⟨d, 5, none⟩ (.slice none 0 0) = W2 at HS2 ⊢
  clear b1 c5 f5 HS
  have b1 := HS2.out.b HE.out.1
  have c6 := HS2.out.1.at6 HE.out.1
  have f6 := HS2.out.1.fr HE.out.1 6
  go_wp2_with fail
  refine wp_loop_rounds 1 ?_
  rw [rounds_succ]
  go_wp2_with fail
  have HDS := Lib.hid (show ∀ S : List Nat, S = [d] → (B ∉ S ∧ dl ∉ S ∧ gl ∉ S ∧ 1 ∉ S) ∧ ∀ s ∈ S, s ∈ [K.d, K.b, dl] from fun S hS => by
    subst hS
    rw [← HE.out.1]
    refine ⟨⟨?_, by simpa using HX.out.2.2.2.2.1.1.1.symm, by simpa using HX.out.2.2.2.2.1.2.1.symm, by simpa using (HX.out.2.2.2.2.2 _ HG0.out.1).symm⟩, by simp⟩
    have := HE.out.1
    simp
    omega)
  go_cut [] (fun wx => TickSt K ((K.nowAt x1).watchAt (.slice none 0 0)) G n dl gl B ls w wx)
  case first =>
    have HF := Lib.hid ((HS2.out.same (Mod.refl [] W2).drew).next (S := [d]) ((Mod.refl [d] W2.drew).setCell (p := ⟨d, 6, none⟩) (.inl (by simp)) (.slice none 0 0)) ((HS2.out.same (Mod.refl [] W2).drew).1.again' HE.out.1 ((HS2.out.same (Mod.refl [] W2).drew).1.at6 HE.out.1)) (HDS.out _ rfl).2 (HDS.out _ rfl).1.1 (HDS.out _ rfl).1.2.1 (HDS.out _ rfl).1.2.2.1 (HDS.out _ rfl).1.2.2.2)
    -- <slow>
    go_region_with (go_at_call 53; refine (edelete_nil _ _).mono ?_; rintro e w3 ⟨rfl, rfl⟩)
    all_goals
      go_wp2_with fail
      go_meet
      case rel => exact HF.out
    -- </slow>
  case rest =>
    have HS3 := Lib.hid hcut
    clear hcut HS2 b1 c6 f6
    have b1 := HS3.out.b HE.out.1
    have c8 := HS3.out.1.at8 HE.out.1
    go_wp2_with fail
    go_cut [142, 143, 144] (fun s1 s2 s3 wx => s1 = .slice none 0 0 ∧ s2 = .int .i64 0 ∧ s3 = .int .i64 0 ∧ Mod [] wc wx)
    case first =>
      -- <slow>
      go_region_with (go_at_call 55; refine (dover_nil d 4 _ _ ((HS3.out.same (Mod.refl [] _).drew).1.at4 HE.out.1)).mono ?_; rintro e w4 ⟨rfl, hM4⟩; have HM4 := Lib.hid ((Mod.refl [] wc).drew.trans hM4); clear hM4)
      all_goals
        go_wp2_with fail
        go_meet
        case rel => exact ⟨rfl, rfl, rfl, HM4.out⟩
      -- </slow>
    case rest =>
      obtain ⟨rfl, rfl, rfl, hm4⟩ := hcut
      have HS4 := Lib.hid (HS3.out.same hm4)
      clear hm4 HS3 b1 c8
      have b1 := HS4.out.b HE.out.1
      have c0 := HS4.out.1.at0 HE.out.1 HE.out.2
      obtain ⟨f1, f2, f3, ks, f4, f5, f6, f7⟩ := full_facts n K.me HX.out.1 HX.out.2.2.1
      rw [← HX.out.2.1] at f4
      have HKS := Lib.hid (And.intro f5 (And.intro f6 f7))
      have hoth := fun w' (hm : Mod [] wc w') => others_is _ ks rfl f4 (by omega) w' (HS4.out.same hm).1.calm (HS4.out.same hm).2.2.2.2
      rw [show ((K.nowAt x1).watchAt (.slice none 0 0)).r = r from HE.out.2] at hoth
      have HOT := Lib.hid hoth
      obtain ⟨hn1, hn2⟩ := rNext_one K.L ks ls f6
      obtain ⟨j, hj⟩ : ∃ j : Nat, (rNext K.L ks ls).1 = (j : Int) := ⟨(rNext K.L ks ls).1.toNat, by have := (f7 _ hn1).1; omega⟩
      have HJ := Lib.hid (And.intro hj (And.intro (show j < n ∧ j ≠ K.me by have := f7 _ hn1; omega) hn2))
      clear f1 f2 f3 f4 f5 f6 f7 hoth hn1 hn2 hj
      go_wp2_with fail
      refine wp_loop_rounds 1 ?_
      rw [rounds_succ]
      go_wp2_with fail
      go_cut [15, 16] (fun s1 s2 wx => s1 = .int .i64 j ∧ s2 = .bool true ∧ ∃ L' ls', TickSt K (((K.nowAt x1).watchAt (.slice none 0 0)).lefts L') G n dl gl B ls' w wx)
      case first =>
        -- <slow>
        go_region_with (first | (go_at_call 51; refine (HOT.out _ (Mod.refl [] _).drew).mono ?_; rintro e w5 ⟨v5, rfl, hO5, hM5⟩; obtain ⟨a5, c5, rfl, hrd5, _, _, _, _⟩ := hO5.shape; have HRD5 := Lib.hid hrd5; have HM5 := Lib.hid ((Mod.refl [] wc).drew.trans hM5); have b5 := (HS4.out.same HM5.out).b HE.out.1; clear hO5 hrd5 hM5) | (go_at_call 56; refine (rnext_any1 G d dl gl a5 c5 ks K.L ls _ ((HS4.out.same HM5.out).1.at1 HE.out.1) (HS4.out.same HM5.out).2.2.1 HRD5.out HKS.out.2.1 (by have := HKS.out.1; omega) (HE.out.1 ▸ HG0.out.1) (HS4.out.same HM5.out).1.lo (HE.out.1 ▸ HX.out.2.2.2.2.1.1.1) (HE.out.1 ▸ HX.out.2.2.2.2.1.2.1)).mono ?_; rintro e w6 ⟨rfl, hN6⟩; have HN6 := Lib.hid hN6; have hj := HJ.out.1; rw [hj]; clear hN6 hj))
        all_goals
          go_wp2_with fail
          go_meet
          case rel =>
            obtain ⟨hR6, hL6, hM6, hK6⟩ := HN6.out
            have hst := HS4.out.same HM5.out
            have hap := HX.out.2.2.2.2.1
            rw [← HE.out.1] at hR6 hM6 hK6
            have hlen : (rNext K.L ks ls).2.1.length ≤ 100 := by
              have h1 := HJ.out.2.2
              have h2 := HKS.out.1
              have h3 : K.L.length ≤ 100 := hst.1.len
              omega
            refine ⟨rfl, rfl, _, _, hst.1.rounded hR6 hM6 hK6 hap.1.2.1 hap.1.2.2 hlen, row_mod hM6 hst.2.1 ?_, hL6, hst.2.2.2.1.trans (hM6.wide (by simp)), hst.2.2.2.2.mod hM6 ?_⟩
            · have h1 := HB.out
              have h2 := HLO.out _ HG0.out.1
              have h3 := HLO.out _ HX.out.2.2.2.1
              simp
              omega
            · have h1 := HX.out.2.2.2.2.2 _ HG0.out.1
              have h2 := HX.out.2.2.2.2.2 _ HX.out.2.2.2.1
              simp
              exact ⟨h2.symm, h1.symm⟩
        -- </slow>
      case rest =>
        obtain ⟨rfl, rfl, L', ls', hst⟩ := hcut
        have HS5 := Lib.hid hst
        have hping := ping_at hst.1 HE.out.1
        have HPI := Lib.hid hping
        clear hst HS4 b1 c0 HOT hping
        have b1 := HS5.out.b HE.out.1
        go_wp2_with fail
        refine HPI.out.mono ?_
        rintro e w6 ⟨s, rfl, hA6, hM6⟩
        have HS6 := Lib.hid (show TickSt K ((((K.nowAt x1).watchAt (.slice none 0 0)).lefts L').seqAt s) G n dl gl B ls' w w6 from HS5.out.next hM6 hA6 (HDS.out _ rfl).2 (HDS.out _ rfl).1.1 (HDS.out _ rfl).1.2.1 (HDS.out _ rfl).1.2.2.1 (HDS.out _ rfl).1.2.2.2)
        clear hA6 hM6 b1 HPI
        have b1 := HS6.out.b HE.out.1
        have c5 : w6.cell? ⟨d, 5, none⟩ = some (.slice none 0 0) := HS6.out.1.at5 HE.out.1
        have f5 := HS6.out.1.fr HE.out.1 5
        have c8 : w6.cell? ⟨d, 8, none⟩ = some (.int .u64 x1) := HS6.out.1.at8 HE.out.1
        have d6 : d < w6.heap.size := block_lt_of_cell c5
        have d6n : ¬ d = w6.heap.size := Nat.ne_of_lt d6
        have b6 : B < w6.heap.size := block_lt_of_cell b1
        have b6n : ¬ B = w6.heap.size := Nat.ne_of_lt b6
        go_wp2_with fail
        obtain ⟨g8, cw, w8, hrun, hrow8, hg8, hcw, hm8⟩ := watch_first (w6.drew.alloc (.cells #[.int .i64 j, .int .u64 s, .int .u64 x1, .bool false] 127)) w6.drew.heap.size 1 (watchV j s x1) rfl (KRow.of (heap_new _ _)) (by intro u hu; simp [watchV] at hu; rcases hu with rfl | rfl | rfl | rfl <;> rfl)
        have hm68 : Mod [] w6 w8 := ((Mod.refl [] w6).drew.alloc _).trans hm8
        have hg6 : w6.heap.size ≤ g8 := by
          have h : w6.heap.size + 1 ≤ g8 := by simpa using hg8
          omega
        have HS8 := Lib.hid (HS6.out.same hm68)
        have HW8 := Lib.hid (And.intro hrow8 (And.intro hg6 (And.intro hcw hm68)))
        have HRUN := Lib.hid hrun
        have d5 : w8.cell? ⟨d, 5, none⟩ = some (.slice none 0 0) := HS8.out.1.at5 HE.out.1
        have e5 := HS8.out.1.fr HE.out.1 5
        have b8 := HS8.out.b HE.out.1
        clear hrun hrow8 hg8 hg6 hcw hm8 hm68
        go_cut [] (fun wx => wx = w8.setCell ⟨d, 5, none⟩ (.slice (some ⟨g8, 0, none⟩) 1 cw))
        case first =>
          -- <slow>
          refine wp_region_held_drew (S := fun w' => w'.cell? ⟨B, 0, none⟩ = some (.pointer (some ⟨d, 0, none⟩)) ∧ w'.cell? ⟨d, 8, none⟩ = some (.int .u64 x1)) (by kernel_rfl) (by exact ⟨b1, c8⟩) (fun hHeld => ?_)
          refine wpAnyH_take (i := 0) (oi := _) (v := ?_) rfl (by kernel_rfl) (by kernel_rfl) (by kernel_rfl) (fun _ _ _ h => h) (Or.inl ⟨by rfl, ?_⟩) (by assumption) ?_
          rotate_left
          · intro w hSw
            (try dsimp only at hSw)
            go_simp
            try with_reducible rfl
          try simp only [Act.put, List.setIfInBounds_toArray, List.set_cons_zero, List.set_cons_succ]
          refine wpAnyH_take (i := 1) (oi := _) (v := ?_) rfl (by kernel_rfl) (by kernel_rfl) (by kernel_rfl) (fun _ _ _ h => h) (Or.inl ⟨by rfl, ?_⟩) (by assumption) ?_
          rotate_left
          · intro w hSw
            (try dsimp only at hSw)
            go_simp
            try with_reducible rfl
          try simp only [Act.put, List.setIfInBounds_toArray, List.set_cons_zero, List.set_cons_succ]
          refine wpAnyH_take (i := 2) (oi := _) (v := ?_) rfl (by kernel_rfl) (by kernel_rfl) (by kernel_rfl) (fun _ _ _ h => h) (Or.inl ⟨by rfl, ?_⟩) (by assumption) ?_
          rotate_left
          · intro w hSw
            (try dsimp only at hSw)
            go_simp
            try with_reducible rfl
          try simp only [Act.put, List.setIfInBounds_toArray, List.set_cons_zero, List.set_cons_succ]
          refine wpAnyH_take (i := 3) (oi := _) (v := ?_) rfl (by kernel_rfl) (by kernel_rfl) (by kernel_rfl) (fun _ _ _ h => h) (Or.inl ⟨by rfl, ?_⟩) (by assumption) ?_
          rotate_left
          · intro w hSw
            (try dsimp only at hSw)
            go_simp
            try with_reducible rfl
          try simp only [Act.put, List.setIfInBounds_toArray, List.set_cons_zero, List.set_cons_succ]
          refine wpAnyH_take (i := 5) (oi := _) (v := ?_) rfl (by kernel_rfl) (by kernel_rfl) (by kernel_rfl) (fun _ _ _ h => h) (Or.inl ⟨by rfl, ?_⟩) (by assumption) ?_
          rotate_left
          · intro w hSw
            (try dsimp only at hSw)
            go_simp
            try with_reducible rfl
          try simp only [Act.put, List.setIfInBounds_toArray, List.set_cons_zero, List.set_cons_succ]
          refine wpAnyH_take (i := 6) (oi := _) (v := ?_) rfl (by kernel_rfl) (by kernel_rfl) (by kernel_rfl) (fun _ _ _ h => h) (Or.inl ⟨by rfl, ?_⟩) (by assumption) ?_
          rotate_left
          · intro w hSw
            (try dsimp only at hSw)
            go_simp
            try with_reducible rfl
          try simp only [Act.put, List.setIfInBounds_toArray, List.set_cons_zero, List.set_cons_succ]
          refine wpAnyH_take (i := 7) (oi := _) (v := ?_) rfl (by kernel_rfl) (by kernel_rfl) (by kernel_rfl) (fun _ _ _ h => h) (Or.inl ⟨by rfl, ?_⟩) (by assumption) ?_
          rotate_left
          · intro w hSw
            (try dsimp only at hSw)
            go_simp
            try with_reducible rfl
          try simp only [Act.put, List.setIfInBounds_toArray, List.set_cons_zero, List.set_cons_succ]
          refine wpAnyH_take (i := 8) (oi := _) (v := ?_) rfl (by kernel_rfl) (by kernel_rfl) (by kernel_rfl) (fun _ _ _ h => h) (Or.inl ⟨by rfl, ?_⟩) (by assumption) ?_
          rotate_left
          · intro w hSw
            (try dsimp only at hSw)
            go_simp
            try with_reducible rfl
          try simp only [Act.put, List.setIfInBounds_toArray, List.set_cons_zero, List.set_cons_succ]
          refine wpAnyH_take (i := 9) (oi := _) (v := ?_) rfl (by kernel_rfl) (by kernel_rfl) (by kernel_rfl) (fun _ _ _ h => h) (Or.inl ⟨by rfl, ?_⟩) (by assumption) ?_
          rotate_left
          · intro w hSw
            (try dsimp only at hSw)
            go_simp
            try with_reducible rfl
          try simp only [Act.put, List.setIfInBounds_toArray, List.set_cons_zero, List.set_cons_succ]
          refine wpAnyH_take (i := 10) (oi := _) (v := ?_) rfl (by kernel_rfl) (by kernel_rfl) (by kernel_rfl) (fun _ _ _ h => h) (Or.inl ⟨by rfl, ?_⟩) (by assumption) ?_
          rotate_left
          · intro w hSw
            (try dsimp only at hSw)
            go_simp
            try with_reducible rfl
          try simp only [Act.put, List.setIfInBounds_toArray, List.set_cons_zero, List.set_cons_succ]
          refine wpAnyH_take (i := 11) (oi := _) (v := ?_) rfl (by kernel_rfl) (by kernel_rfl) (by kernel_rfl) (fun _ _ _ h => h) (Or.inl ⟨by rfl, ?_⟩) (by assumption) ?_
          rotate_left
          · intro w hSw
            (try dsimp only at hSw)
            go_simp
            try with_reducible rfl
          try simp only [Act.put, List.setIfInBounds_toArray, List.set_cons_zero, List.set_cons_succ]
          refine wpAnyH_ready (rs := [4, 12]) (by kernel_rfl) (by simp) ?_
          refine AllReadyH.cons (o := _) rfl (fun K hK => ?_) (AllReadyH.cons (o := _) rfl (fun K hK => ?_) AllReadyH.nil)
          · go_simp
            refine hK _ _ (by exact ⟨b1, c8⟩) (fun hHeld => ?_)
            clear hK K
            try simp only [Act.put, List.setIfInBounds_toArray, List.set_cons_zero, List.set_cons_succ]
            refine wpAnyH_ready (rs := [12]) (by kernel_rfl) (by simp) ?_
            refine AllReadyH.cons (o := _) rfl (fun K hK => ?_) AllReadyH.nil
            go_simp
            refine hK _ _ (by exact ⟨((Mod.refl [] w6).drew.alloc _).at b1 (by simp), ((Mod.refl [] w6).drew.alloc _).at c8 (by simp)⟩) (fun hHeld => ?_)
            clear hK K
            try simp only [Act.put, List.setIfInBounds_toArray, List.set_cons_zero, List.set_cons_succ]
            refine wpAnyH_ready (rs := [13]) (by kernel_rfl) (by simp) ?_
            refine AllReadyH.cons (o := _) rfl (fun K hK => ?_) AllReadyH.nil
            refine kstep_append_run rfl (.tmp 179) (.tmp 187) 76 rfl (.slice none 0 0) (.slice (some ⟨w6.drew.heap.size, 0, none⟩) 1 1) (.slice (some ⟨g8, 0, none⟩) 1 cw) w8 (by simp [Act.eval, Act.put]) (by simp [Act.eval, Act.put]) HRUN.out ?_
            refine hK _ _ (by exact ⟨HW8.out.2.2.2.at b1 (by simp), HW8.out.2.2.2.at c8 (by simp)⟩) (fun hHeld => ?_)
            clear hK K
            try simp only [Act.put, List.setIfInBounds_toArray, List.set_cons_zero, List.set_cons_succ]
            refine wpAnyH_take (i := 14) (oi := _) (v := ?_) rfl (by kernel_rfl) (by kernel_rfl) (by kernel_rfl) (fun _ _ _ h => h) (Or.inl ⟨by rfl, ?_⟩) (by assumption) ?_
            rotate_left
            · intro w hSw
              (try dsimp only at hSw)
              go_simp
              try with_reducible rfl
            try simp only [Act.put, List.setIfInBounds_toArray, List.set_cons_zero, List.set_cons_succ]
            refine wpAnyH_take (i := 15) (oi := _) (v := ?_) rfl (by kernel_rfl) (by kernel_rfl) (by kernel_rfl) (fun _ _ _ h => h) (Or.inl ⟨by rfl, ?_⟩) (by assumption) ?_
            rotate_left
            · intro w hSw
              (try dsimp only at hSw)
              go_simp
              try with_reducible rfl
            try simp only [Act.put, List.setIfInBounds_toArray, List.set_cons_zero, List.set_cons_succ]
            refine wpAnyH_ready (rs := [16]) (by kernel_rfl) (by simp) ?_
            refine AllReadyH.cons (o := _) rfl (fun K hK => ?_) AllReadyH.nil
            go_simp
            refine hK _ _ (by exact ⟨(cell_set_far _ _ _ _ (by simp; omega)).trans (HW8.out.2.2.2.at b1 (by simp)), (cell_set_off _ _ _ _ (by simp)).trans (HW8.out.2.2.2.at c8 (by simp))⟩) (fun hHeld => ?_)
            clear hK K
            try simp only [Act.put, List.setIfInBounds_toArray, List.set_cons_zero, List.set_cons_succ]
            refine wpAnyH_done (by kernel_rfl) ?_ _
            go_wp2_with fail
            go_meet
            case rel => rfl
          · go_simp
            refine hK _ _ (by exact ⟨((Mod.refl [] w6).drew.alloc _).at b1 (by simp), ((Mod.refl [] w6).drew.alloc _).at c8 (by simp)⟩) (fun hHeld => ?_)
            clear hK K
            try simp only [Act.put, List.setIfInBounds_toArray, List.set_cons_zero, List.set_cons_succ]
            refine wpAnyH_ready (rs := [4]) (by kernel_rfl) (by simp) ?_
            refine AllReadyH.cons (o := _) rfl (fun K hK => ?_) AllReadyH.nil
            go_simp
            refine hK _ _ (by exact ⟨((Mod.refl [] w6).drew.alloc _).at b1 (by simp), ((Mod.refl [] w6).drew.alloc _).at c8 (by simp)⟩) (fun hHeld => ?_)
            clear hK K
            try simp only [Act.put, List.setIfInBounds_toArray, List.set_cons_zero, List.set_cons_succ]
            refine wpAnyH_ready (rs := [13]) (by kernel_rfl) (by simp) ?_
            refine AllReadyH.cons (o := _) rfl (fun K hK => ?_) AllReadyH.nil
            refine kstep_append_run rfl (.tmp 179) (.tmp 187) 76 rfl (.slice none 0 0) (.slice (some ⟨w6.drew.heap.size, 0, none⟩) 1 1) (.slice (some ⟨g8, 0, none⟩) 1 cw) w8 (by simp [Act.eval, Act.put]) (by simp [Act.eval, Act.put]) HRUN.out ?_
            refine hK _ _ (by exact ⟨HW8.out.2.2.2.at b1 (by simp), HW8.out.2.2.2.at c8 (by simp)⟩) (fun hHeld => ?_)
            clear hK K
            try simp only [Act.put, List.setIfInBounds_toArray, List.set_cons_zero, List.set_cons_succ]
            refine wpAnyH_take (i := 14) (oi := _) (v := ?_) rfl (by kernel_rfl) (by kernel_rfl) (by kernel_rfl) (fun _ _ _ h => h) (Or.inl ⟨by rfl, ?_⟩) (by assumption) ?_
            rotate_left
            · intro w hSw
              (try dsimp only at hSw)
              go_simp
              try with_reducible rfl
            try simp only [Act.put, List.setIfInBounds_toArray, List.set_cons_zero, List.set_cons_succ]
            refine wpAnyH_take (i := 15) (oi := _) (v := ?_) rfl (by kernel_rfl) (by kernel_rfl) (by kernel_rfl) (fun _ _ _ h => h) (Or.inl ⟨by rfl, ?_⟩) (by assumption) ?_
            rotate_left
            · intro w hSw
              (try dsimp only at hSw)
              go_simp
              try with_reducible rfl
            try simp only [Act.put, List.setIfInBounds_toArray, List.set_cons_zero, List.set_cons_succ]
            refine wpAnyH_ready (rs := [16]) (by kernel_rfl) (by simp) ?_
            refine AllReadyH.cons (o := _) rfl (fun K hK => ?_) AllReadyH.nil
            go_simp
            refine hK _ _ (by exact ⟨(cell_set_far _ _ _ _ (by simp; omega)).trans (HW8.out.2.2.2.at b1 (by simp)), (cell_set_off _ _ _ _ (by simp)).trans (HW8.out.2.2.2.at c8 (by simp))⟩) (fun hHeld => ?_)
            clear hK K
            try simp only [Act.put, List.setIfInBounds_toArray, List.set_cons_zero, List.set_cons_succ]
            refine wpAnyH_done (by kernel_rfl) ?_ _
            go_wp2_with fail
            go_meet
            case rel => rfl
          -- </slow>
        case rest =>
          subst hcut
          clear b1 c5 f5 c8 d5 e5 b8 d6 d6n b6 b6n
          have hsd : Mod [d] w8 (w8.setCell ⟨d, 5, none⟩ (.slice (some ⟨g8, 0, none⟩) 1 cw)) := (Mod.refl _ _).setCell (.inl (by simp)) _
          obtain ⟨hr8, hg6, hcw, hm68⟩ := HW8.out
          have hbw : w.heap.size ≤ w6.heap.size := HS6.out.2.2.2.1.size
          have hd0 := HLO.out _ HG0.out.1
          have hb0 := HLO.out _ HG0.out.2.2
          have hed := HE.out.1
          have hgd : g8 ≠ d := by omega
          have hA8 := HS6.out.1.more (G' := g8 :: G) hm68 (fun q hq => by
            simp only [List.mem_cons] at hq
            rcases hq with rfl | hq
            · exact .inr hg6
            · exact .inl hq) (fun q hq => by simp [hq]) (fun q hq => by
            simp only [List.mem_cons] at hq
            rcases hq with rfl | hq
            · exact hr8.lt
            · exact HS8.out.1.lo q hq)
          have hA9 := hA8.watched' HE.out.1 (.slice (some ⟨g8, 0, none⟩) 1 cw)
          have HR9 := Lib.hid (hr8.mod hsd (by simp; exact hgd))
          have HS9 := Lib.hid (show TickSt K (((((K.nowAt x1).watchAt (.slice none 0 0)).lefts L').seqAt s).watchAt (.slice (some ⟨g8, 0, none⟩) 1 cw)) (g8 :: G) n dl gl B ls' w (w8.setCell ⟨d, 5, none⟩ (.slice (some ⟨g8, 0, none⟩) 1 cw)) from
            ⟨hA9, row_mod hsd HS8.out.2.1 (HDS.out _ rfl).1.1, HS8.out.2.2.1.mod hsd (HDS.out _ rfl).1.2.1 (HDS.out _ rfl).1.2.2.1, HS8.out.2.2.2.1.trans (hsd.wide (HDS.out _ rfl).2), HS8.out.2.2.2.2.mod hsd (HDS.out _ rfl).1.2.2.2⟩)
          have HNM := Lib.hid (show g8 ≠ K.b ∧ w.heap.size ≤ g8 ∧ (1 ≤ cw ∧ cw ≤ maxLen) from ⟨by omega, by omega, hcw⟩)
          clear hsd hr8 hg6 hcw hm68 hbw hd0 hb0 hed hgd hA8 hA9 HW8 HRUN HS8 HS6
          generalize w8.setCell ⟨d, 5, none⟩ (.slice (some ⟨g8, 0, none⟩) 1 cw) = W9 at HR9 HS9 ⊢
          have HSAY := Lib.hid (say_at (t := j) 1 s 0 HS9.out.1 HS9.out.2.2.2.2 HX.out.1 HX.out.2.1 HE.out.1 (rfl : K.me = K.me) (rfl : K.b = K.b) HX.out.2.2.1 HJ.out.2.1.1)
          have b9 := HS9.out.b HE.out.1
          go_wp2_with fail
          refine HSAY.out.mono ?_
          rintro e w10 ⟨gv, mv, cv, L10, rfl, hU, hl, hL, hA, hM⟩
          obtain ⟨g11, c11, w11, hrun, hrow, hg11, hc11, hm11⟩ := notes_first (w10.alloc (.cells #[.int .i64 1, .int .i64 K.me, .int .i64 j, .int .u64 s, .int .i64 0, .slice (some ⟨gv, 0, none⟩) mv cv] 61)) w10.heap.size 1 [.int .i64 1, .int .i64 K.me, .int .i64 j, .int .u64 s, .int .i64 0, .slice (some ⟨gv, 0, none⟩) mv cv] rfl (KRow.of (heap_new _ _)) (by intro u hu; simp at hu; rcases hu with rfl | rfl | rfl | rfl | rfl | rfl <;> rfl)
          have hm1011 : Mod [] w10 w11 := ((Mod.refl [] w10).alloc _).trans hm11
          have HF := Lib.hid (And.intro hU (And.intro hl (And.intro hL (And.intro hA hM))))
          have HG := Lib.hid (And.intro hrow (And.intro hg11 hm1011))
          have HC11 := Lib.hid hc11
          have HRUN := Lib.hid hrun
          clear hU hl hL hA hM hrow hg11 hc11 hm11 hm1011 hrun b9
          go_wp2_with (at_builtin; with_reducible refine wplk_append_run _ rfl (.tmp 191) (.tmp 197) 58 rfl (.slice none 0 0) (.slice (some ⟨w10.heap.size, 0, none⟩) 1 1) rfl rfl HRUN.out ?_)
          go_ret
          obtain ⟨hU, hl, hL, hA, hM⟩ := HF.out
          obtain ⟨hrow, hg11, hm⟩ := HG.out
          have hs9 := HS9.out.2.2.2.1.size
          have hs10 := hM.size
          have hg11' : w10.heap.size + 1 ≤ g11 := by simpa using hg11
          have hap := HX.out.2.2.2.2.1
          refine ⟨j, s, x1, L', g8, cw, g11, c11, _, L10, ls', HJ.out.2.1.1, HJ.out.2.1.2, rfl, hrow, ownsRow_base (ownsRow_mod hU hm (by simp)) hs9, hl, hL, hA.same hm, (HR9.out.mod hM (by simpa using HNM.out.1)).same hm, HNM.out.2.2, ⟨HNM.out.2.1, by omega, HC11.out.1, HC11.out.2⟩, (HS9.out.2.2.1.mod hM (by simpa using hap.1.2.2.symm) (by simpa using hap.2.2.2.symm)).mod hm (by simp) (by simp), (HS9.out.2.2.2.1.trans (hM.wide (by simp))).trans (hm.wide (by simp))⟩

end Go.Proofs.YtaaaiggbnkeblaaGreatDoor
