/-
  The walk of the law OrderParts.
-/
import Derived.Test.YtogaamnlokgjgaaOrdA
import Derived.Test.YtogaamnlokgjgaaClerkN
import Derived.Test.YtogaamnlokgjgaaClerkB
import Derived.Test.YtogaamnlokgjgaaClerkM
import Derived.Test.YtogaamnlokgjgaaPartsN
import Derived.Test.YtogaamnlokgjgaaFrame
namespace Go.Proofs.Ytogaamnlokgjgaa
open Go.RowKit

theorem updO_getD (f : Int → Option Int) (k v x : Int) : (updO f k v x).getD 0 = if x = k then v else (f x).getD 0 := by
  unfold updO
  split <;> simp

def numNx (nx : Int) (f : Int → Option Int) (s n : Int) : Int := if numErr nx f s n = 0 then nx + 1 else nx
def numF (nx : Int) (f : Int → Option Int) (s n : Int) : Int → Option Int := if numErr nx f s n = 0 then updO f s n else f
theorem numF_getD (nx : Int) (f : Int → Option Int) (s n x : Int) : (numF nx f s n x).getD 0 = if numErr nx f s n = 0 ∧ x = s then n else (f x).getD 0 := by
  unfold numF
  by_cases h : numErr nx f s n = 0
  · rw [if_pos h, updO_getD]
    simp [h]
  · rw [if_neg h, if_neg (fun e => h e.1)]
theorem numErr_congr {nx : Int} {f f2 : Int → Option Int} {s : Int} (n : Int) (h : (f2 s).getD 0 = (f s).getD 0) : numErr nx f2 s n = numErr nx f s n := by
  unfold numErr
  rw [h]

structure PartsInv (w0 wr : World) (d m p mb : Nat) (i : Nat) (nx : Int) (f h : Int → Option Int) (sf sh : Nat) : Prop where
  clerk : ClerkAt wr d m nx f sf
  sf : sf ≤ 64 + i
  var : wr.cell? ⟨p, 0, none⟩ = some (.map (some mb))
  map : OMap Try.prog 3 26 .u64 wr mb h sh
  sh : sh ≤ i
  n0 : 1 ≤ nx
  n1 : nx ≤ 1 + i
  hlow : ∀ x, 0 ≤ (h x).getD 0 ∧ (h x).getD 0 ≤ i
  flow : ∀ x, 0 ≤ (f x).getD 0 ∧ (f x).getD 0 ≤ i
  mod : Mod [] w0 wr

def Apart (w0 : World) (d m p mb : Nat) : Prop := (p ≠ d ∧ p ≠ m ∧ mb ≠ d ∧ mb ≠ m ∧ p ≠ mb) ∧ w0.heap.size ≤ d ∧ w0.heap.size ≤ m ∧ w0.heap.size ≤ mb ∧ w0.heap.size ≤ p

/-- Behind the closure. -/
theorem parts_mid {w0 wr w3 : World} {d m p mb i sf sh sz' : Nat} {nx x k : Int} {f h : Int → Option Int} (H : PartsInv w0 wr d m p mb i nx f h sf sh) (A : Apart w0 d m p mb)
    (hM : Mod [mb] wr w3) (hs : sz' ≤ sh + 1) (hO : OMap Try.prog 3 26 .u64 w3 mb (partsMap h x k) sz') : PartsInv w0 w3 d m p mb (i + 1) nx f (partsMap h x k) sf sz' := by
  obtain ⟨⟨a1, a2, a3, a4, a5⟩, a6, a7, a8, a9⟩ := A
  refine ⟨H.clerk.mod hM (by simp; omega) (by simp; omega), by have := H.sf; omega, (hM.cell (block_lt_of_cell H.var) (by simp; omega)).trans H.var, hO, by have := H.sh; omega, H.n0, by have := H.n1; omega, fun y => ?_, fun y => by have := H.flow y; omega, H.mod.step hM (by simp; omega)⟩
  unfold partsMap
  split
  · rw [updO_getD]
    split
    · have := H.hlow k
      omega
    · have := H.hlow y
      omega
  · have := H.hlow y
    omega

/-- Behind Number. -/
theorem parts_num {w0 wr wn w4 : World} {d m p mb i sf sh : Nat} {nx k n : Int} {f h : Int → Option Int} {e : Ending} (H : PartsInv w0 wr d m p mb (i + 1) nx f h sf sh) (A : Apart w0 d m p mb) (hb : sf ≤ 64 + i) (hx : nx ≤ 1 + i)
    (hw : Mod [] wr wn) (hn : (h k).getD 0 = n) (hN : NumPost wn d m sf nx f k n e w4) : ∃ sf', PartsInv w0 w4 d m p mb (i + 1) (numNx nx f k n) (numF nx f k n) h sf' sh := by
  obtain ⟨⟨a1, a2, a3, a4, a5⟩, a6, a7, a8, a9⟩ := A
  obtain ⟨_, hM, sf', hs', hC⟩ := hN
  have hM2 : Mod [d, m] wr w4 := hw.mono (fun _ _ hk => by simp at hk) |>.trans hM
  have hn2 := H.hlow k
  rw [hn] at hn2
  refine ⟨sf', hC, by omega, (hM2.cell (block_lt_of_cell H.var) (by simp; omega)).trans H.var, H.map.mod hM2 (by simp; omega), H.sh, ?_, ?_, H.hlow, fun y => ?_, H.mod.step hM2 (by simp; omega)⟩
  · have := H.n0
    unfold numNx
    split <;> omega
  · unfold numNx
    split <;> omega
  · rw [numF_getD]
    split
    · exact hn2
    · exact H.flow y

def PartsRel (w0 : World) (d m p mb n : Nat) (v : Value) (wr : World) : Prop :=
  ∃ (i : Nat) (nx : Int) (f h : Int → Option Int) (sf sh : Nat), v = .int .i64 i ∧ i ≤ n ∧ PartsInv w0 wr d m p mb i nx f h sf sh

def upto (f : Int → Option Int) (n : Nat) : Int → Option Int := fun x => if 0 ≤ x ∧ x < n then some ((f x).getD 0) else none
theorem upto_zero (f : Int → Option Int) : upto f 0 = fun _ => none := by
  funext x
  unfold upto
  rw [if_neg (by omega)]
theorem upto_succ (f : Int → Option Int) (n : Nat) (c : Int) (h : (f n).getD 0 = c) : updO (upto f n) n c = upto f (n + 1) := by
  funext x
  unfold updO upto
  by_cases e : x = n
  · subst e
    rw [if_pos rfl, if_pos (by omega), h]
  · rw [if_neg e]
    by_cases h2 : 0 ≤ x ∧ x < n
    · rw [if_pos h2, if_pos (by omega)]
    · rw [if_neg h2, if_neg (by omega)]
theorem upto_node (f : Int → Option Int) (x : Int) (h : isNode x = true) : (cutNode (upto f 64) x).getD 0 = (f x).getD 0 := by
  unfold cutNode upto
  simp [isNode] at h
  rw [if_pos (by simp [isNode]; omega), if_pos (by omega)]
  simp

def LastRel (w0 : World) (d m p mb lb i : Nat) (nx : Int) (f h : Int → Option Int) (sf sh : Nat) (v : Value) (wr : World) : Prop :=
  ∃ (n sg : Nat), v = .int .i64 n ∧ n ≤ 64 ∧ sg ≤ n ∧ PartsInv w0 wr d m p mb i nx f h sf sh ∧ OMap Try.prog 3 26 .u64 wr lb (upto f n) sg

theorem PartsInv.mod' {w0 wr w3 : World} {d m p mb i sf sh : Nat} {nx : Int} {f h : Int → Option Int} {S : List Nat} (H : PartsInv w0 wr d m p mb i nx f h sf sh) (hM : Mod S wr w3) (hS : d ∉ S ∧ m ∉ S ∧ p ∉ S ∧ mb ∉ S) (h0 : ∀ s ∈ S, w0.heap.size ≤ s) :
    PartsInv w0 w3 d m p mb i nx f h sf sh :=
  ⟨H.clerk.mod hM hS.1 hS.2.1, H.sf, (hM.cell (block_lt_of_cell H.var) hS.2.2.1).trans H.var, H.map.mod hM hS.2.2.2, H.sh, H.n0, H.n1, H.hlow, H.flow, H.mod.step hM (fun s hs => .inr (h0 s hs))⟩

def TwinRel (w0 : World) (d m p mb d2 m2 a n : Nat) (v : Value) (wr : World) : Prop :=
  ∃ (j : Nat) (nx : Int) (f h f2 : Int → Option Int) (sf sh sf2 : Nat), v = .int .i64 j ∧ j ≤ n ∧ PartsInv w0 wr d m p mb (a + j) nx f h sf sh ∧ ClerkAt wr d2 m2 nx f2 sf2 ∧ sf2 ≤ 64 + j ∧ ∀ x, isNode x = true → (f2 x).getD 0 = (f x).getD 0

set_option maxRecDepth 100000 in
set_option maxHeartbeats 8000000 in
theorem walk_OrderParts (w : World) (a : Option Addr) (c : Nat) (xs : List Int) (rd : RdInts .u8 w a xs) (wf : ∀ x ∈ xs, (Lit.int .u8 x).wf = true) (_nc : a = none → c = 0)
    (b : Option Addr) (c2 : Nat) (ys : List Int) (rd2 : RdInts .u8 w b ys) (wf2 : ∀ x ∈ ys, (Lit.int .u8 x).wf = true) (_nc2 : b = none → c2 = 0) :
    Calls Try.prog 3 #[.slice a xs.length c, .slice b ys.length c2] w (TruePost w) := by
  have RD := Lib.hid rd
  have RD2 := Lib.hid rd2
  have WF := Lib.hid wf
  have WF2 := Lib.hid wf2
  have hmm := @run_makeMap Try.prog
  have hmf : ∀ fn first cap w, (Instr.makeFunc fn first cap).run Try.prog w = .ok (.func fn first cap) w := fun _ _ _ _ => rfl
  clear rd rd2 wf wf2 _nc _nc2
  by_cases h1 : (100 : Int) < xs.length
  · go_enter Try.func3, Try.ntmps3
    go_wp2_with fail
    refine (shown18 _).mono ?_
    rintro e w1 ⟨rfl, hM⟩
    have HM := Lib.hid hM
    clear hM
    go_wp2_with fail
    go_ret
    exact ⟨rfl, HM.out⟩
  by_cases h2 : (100 : Int) < ys.length
  · go_enter Try.func3, Try.ntmps3
    go_wp2_with fail
    refine (shown18 _).mono ?_
    rintro e w1 ⟨rfl, hM⟩
    have HM := Lib.hid hM
    clear hM
    go_wp2_with fail
    go_ret
    exact ⟨rfl, HM.out⟩
  go_enter Try.func3, Try.ntmps3
  go_wp2_with fail
  refine (shown18 _).mono ?_
  rintro e w1 ⟨rfl, hM⟩
  have HM1 := Lib.hid hM
  clear hM
  go_wp2_with fail
  refine (newclerk_nil 1 _ (by decide) (by decide)).mono ?_
  rintro e w2 ⟨d, m, sz, rfl, hd, hm, hsz, hC, hM⟩
  have HC := Lib.hid (show ClerkAt w2 d m 1 (fun _ => none) sz from hC)
  have HM2 := Lib.hid (HM1.out.trans hM)
  have HD := Lib.hid (show w.heap.size ≤ d ∧ w.heap.size ≤ m by have := HM1.out.size; omega)
  clear hC hM hd hm
  have HLT := Lib.hid (show d < w2.heap.size ∧ m < w2.heap.size from ⟨block_lt_of_cell HC.out.1, HC.out.2.2.2.2.1.lt⟩)
  have HAP := Lib.hid (show Apart w d m (w2.heap.size + 1) w2.heap.size by
    have := HLT.out
    have := HD.out
    have := HM2.out.size
    unfold Apart
    omega)
  go_wp2_with fail
  clear hmm hmf
  go_loopw [8] (fun v wr => PartsRel w d m (w2.heap.size + 1) w2.heap.size xs.length v wr) (fun v _ => xs.length - (intOf v).toNat)
  case atStart => exact ⟨0, 1, fun _ => none, fun _ => none, sz, 0, rfl, Nat.zero_le _, HC.out.mod (((Mod.refl [] _).alloc _).alloc _) (by simp) (by simp), by omega, cell_in (heap_top _ _ _) rfl, (OMap.made _ _ _ _ _).mod ((Mod.refl [] _).alloc _) (by simp), Nat.le_refl _, by omega, by omega, fun _ => by decide, fun _ => by decide, (HM2.out.alloc _).alloc _⟩
  case round =>
    obtain ⟨i, nx, f, h, sf, sh, rfl, hi, hinv⟩ := hrel
    have HI := Lib.hid hinv
    have hp := hinv.var
    obtain ⟨_, hsf, _, _, hsh, n0, n1, _, _, _⟩ := hinv
    by_cases hlx : (i : Int) < xs.length
    · have hlx' : i < xs.length := by omega
      obtain ⟨x, hx⟩ : ∃ x, xs[i]? = some x := ⟨_, List.getElem?_eq_getElem hlx'⟩
      obtain ⟨ad, rfl, _, hcx⟩ := (RD.out.mod HI.out.mod (by simp)) (by intro h; rw [h] at hlx'; simp at hlx')
      have cx := hcx i x hx
      obtain ⟨x0, x1⟩ := wf_bounds_u8 (WF.out x (List.mem_of_getElem? hx))
      obtain ⟨k, hk⟩ : ∃ k, x.tmod 5 = k := ⟨_, rfl⟩
      have hk5 : 0 ≤ k ∧ k < 5 := by rw [Int.tmod_eq_emod_of_nonneg x0] at hk; omega
      have HK5 := Lib.hid hk5
      have HWK := Lib.hid (show (Lit.int .i64 k).wf = true from WalkArith.wf_i64 ⟨by omega, by omega⟩)
      have hh := HI.out.hlow k
      have CALL := Lib.hid (parts_next (w2.heap.size + 1) w2.heap.size sh h x k wr hp HI.out.map (by omega) (by omega) x0 x1 hk (by omega) (by omega))
      clear hcx hx hk5 hh hk hp
      go_wp2_with fail
      refine CALL.out.mono ?_
      rintro e w3 ⟨rfl, hM3, sz', hs', hO⟩
      obtain ⟨n, hn⟩ : ∃ n, (partsMap h x k k).getD 0 = n := ⟨_, rfl⟩
      rw [hn]
      have hmid := parts_mid HI.out HAP.out hM3 hs' hO
      have hnb := hmid.hlow k
      rw [hn] at hnb
      obtain ⟨nb0, nb1⟩ := hnb
      have HMID := Lib.hid hmid
      have HN := Lib.hid hn
      clear hM3 hs' hO hmid hn cx
      go_wp2_with fail
      refine (number_any d m sf nx f k n ⟨#[]⟩ _ HMID.out.clerk (by omega) HWK.out nb0 (by omega) (HMID.out.flow k).1).mono ?_
      intro e w4 hp
      obtain ⟨he, _⟩ := id hp
      obtain ⟨sf', hnext⟩ := parts_num HMID.out HAP.out hsf n1 (Mod.refl _ _) HN.out hp
      subst he
      have HNX := Lib.hid hnext
      clear hnext hp
      go_wp2_with fail
      go_roundw
      case rel => exact ⟨i + 1, _, _, _, sf', _, by go_num, by omega, HNX.out⟩
      case measure => simp [intOf]; omega
    · have hix : i = xs.length := by omega
      subst hix
      have hmm := @run_makeMap Try.prog
      go_wp2_with fail
      clear hmm
      have HLB := Lib.hid (show wr.heap.size ≠ d ∧ wr.heap.size ≠ m ∧ wr.heap.size ≠ w2.heap.size + 1 ∧ wr.heap.size ≠ w2.heap.size ∧ w.heap.size ≤ wr.heap.size by
        have h1 := block_lt_of_cell HI.out.clerk.1
        have h2 := HI.out.clerk.2.2.2.2.1.lt
        have h3 := block_lt_of_cell HI.out.var
        have h4 := HI.out.map.lt
        have h5 := HI.out.mod.size
        simp at h1 h3
        omega)
      obtain ⟨wA, rfl⟩ : ∃ wA, wA = wr := ⟨_, rfl⟩
      go_loopw [10] (fun v w' => LastRel w d m (w2.heap.size + 1) w2.heap.size wA.heap.size xs.length nx f h sf sh v w') (fun v _ => 64 - (intOf v).toNat)
      case atStart => exact ⟨0, 0, rfl, by omega, Nat.le_refl _, HI.out.mod' ((Mod.refl [] _).alloc _) (by simp) (by simp), by rw [upto_zero]; exact OMap.made _ _ _ _ _⟩
      case round =>
        obtain ⟨n, sg, rfl, hn, hsg, hinv, hmap⟩ := hrel
        have HI2 := Lib.hid hinv
        have HMP := Lib.hid hmap
        clear hinv hmap
        obtain ⟨cc, hcc⟩ : ∃ cc, (f n).getD 0 = cc := ⟨_, rfl⟩
        have hcb := HI2.out.flow n
        rw [hcc] at hcb
        obtain ⟨hc0, hc1⟩ := hcb
        have HCC := Lib.hid hcc
        have HWN := Lib.hid (show (Lit.int .i64 (n : Int)).wf = true from WalkArith.wf_i64 ⟨by omega, by omega⟩)
        have HWC := Lib.hid (show (Lit.int .u64 cc).wf = true from WalkArith.wf_u64 ⟨by omega, by omega⟩)
        clear hcc
        by_cases hn64 : (n : Int) < 64
        · go_wp2_with (first | (go_at_call 8; refine (clast_any d m sf nx f n cc _ HI2.out.clerk HWN.out HCC.out).mono ?_; rintro e w5 ⟨rfl, rfl⟩) | (at_mapUpdate; with_reducible refine wpList_omap_put (b := wA.heap.size) rfl (.tmp 53) (.tmp 54) (.tmp 57) 27 rfl Try.underlying3 Try.underlying27 Try.underlying26 (upto f n) sg rfl HMP.out ?o1 n cc rfl rfl HWN.out HWC.out ?o2))
          case o1 => unfold maxLen; omega
          case o2 =>
            intro w5 hmap hgr
            have HI3 := Lib.hid (HI2.out.mod' ((Mod.refl [wA.heap.size] _).grown hgr (.inl (by simp))) (by have := HLB.out; simp; omega) (by have := HLB.out; simp; omega))
            have HM3 := Lib.hid (show OMap Try.prog 3 26 .u64 w5 wA.heap.size (upto f (n + 1)) (sizeO (upto f n) n sg) by rw [← upto_succ f n cc HCC.out]; exact hmap)
            clear hmap hgr
            try go_frame
            try go_wp2_with fail
            go_roundw
            case rel => exact ⟨n + 1, _, by go_num, by omega, by unfold sizeO; split <;> omega, HI3.out, HM3.out⟩
            case measure => simp [intOf]; omega
        · have hne : n = 64 := by omega
          subst hne
          go_wp2_with fail
          refine (cnext_any d m sf nx f _ HI2.out.clerk).mono ?_
          rintro e w5 ⟨rfl, rfl⟩
          go_wp2_with fail
          refine (newclerk_map nx wA.heap.size sg (upto f 64) _ (by omega) (by omega) HMP.out (by omega)).mono ?_
          rintro e w6 ⟨d2, m2, sz2, rfl, hd2, hm2, hsz2, hC2, hM6⟩
          rw [show max 1 nx = nx by omega] at hC2
          have HI6 := Lib.hid (HI2.out.mod' hM6 (by simp) (by simp))
          have HC6 := Lib.hid hC2
          have HD2 := Lib.hid (show (d2 ≠ d ∧ d2 ≠ m ∧ d2 ≠ w2.heap.size + 1 ∧ d2 ≠ w2.heap.size) ∧ (m2 ≠ d ∧ m2 ≠ m ∧ m2 ≠ w2.heap.size + 1 ∧ m2 ≠ w2.heap.size) ∧ w.heap.size ≤ d2 ∧ w.heap.size ≤ m2 by
            have h1 := block_lt_of_cell HI2.out.clerk.1
            have h2 := HI2.out.clerk.2.2.2.2.1.lt
            have h3 := block_lt_of_cell HI2.out.var
            have h4 := HI2.out.map.lt
            have h5 := HI2.out.mod.size
            simp at h1 h3
            omega)
          clear hd2 hm2 hC2 hM6
          go_wp2_with fail
          go_loopw [12] (fun v w' => TwinRel w d m (w2.heap.size + 1) w2.heap.size d2 m2 xs.length ys.length v w') (fun v _ => ys.length - (intOf v).toNat)
          case atStart => exact ⟨0, nx, f, h, cutNode (upto f 64), sf, sh, sz2, rfl, Nat.zero_le _, HI6.out, HC6.out, by omega, fun x hx => upto_node f x hx⟩
          case round =>
            clear HI HI2 HI6 HC6 HMP HCC HWN HWC
            obtain ⟨j, nx, f, h, f2, sf, sh, sf2, rfl, hj, hinv, hcl2, hsf2, hsame⟩ := hrel
            have HI := Lib.hid hinv
            have HC2 := Lib.hid hcl2
            have HSAME := Lib.hid hsame
            have hp := hinv.var
            obtain ⟨_, hsf, _, _, hsh, n0, n1, _, _, _⟩ := hinv
            clear hcl2 hsame
            by_cases hly : (j : Int) < ys.length
            · have hly' : j < ys.length := by omega
              obtain ⟨x, hx⟩ : ∃ x, ys[j]? = some x := ⟨_, List.getElem?_eq_getElem hly'⟩
              obtain ⟨ad, rfl, _, hcx⟩ := (RD2.out.mod HI.out.mod (by simp)) (by intro h; rw [h] at hly'; simp at hly')
              have cx := hcx j x hx
              obtain ⟨x0, x1⟩ := wf_bounds_u8 (WF2.out x (List.mem_of_getElem? hx))
              obtain ⟨k, hk⟩ : ∃ k, x.tmod 5 = k := ⟨_, rfl⟩
              have hk5 : 0 ≤ k ∧ k < 5 := by rw [Int.tmod_eq_emod_of_nonneg x0] at hk; omega
              have HK5 := Lib.hid hk5
              have HWK := Lib.hid (show (Lit.int .i64 k).wf = true from WalkArith.wf_i64 ⟨by omega, by omega⟩)
              have hh := HI.out.hlow k
              have CALL := Lib.hid (parts_next (w2.heap.size + 1) w2.heap.size sh h x k wr hp HI.out.map (by omega) (by omega) x0 x1 hk (by omega) (by omega))
              clear hcx hx hk5 hh hk hp
              go_wp2_with fail
              refine CALL.out.mono ?_
              rintro e w7 ⟨rfl, hM3, sz', hs', hO⟩
              obtain ⟨n, hn⟩ : ∃ n, (partsMap h x k k).getD 0 = n := ⟨_, rfl⟩
              rw [hn]
              have hmid := parts_mid HI.out HAP.out hM3 hs' hO
              have hnb := hmid.hlow k
              rw [hn] at hnb
              obtain ⟨nb0, nb1⟩ := hnb
              have HMID := Lib.hid hmid
              have HN := Lib.hid hn
              have hC27 := HC2.out.mod hM3 (by have := HD2.out; simp; omega) (by have := HD2.out; simp; omega)
              have HC27 := Lib.hid hC27
              clear hM3 hs' hO hmid hn cx hC27
              go_wp2_with fail
              have HMA := Lib.hid (HMID.out.mod' ((Mod.refl [] w7).alloc (.cells #[.int .i64 k, .int .u64 n, .string ⟨#[]⟩] 29)) (by simp) (by simp))
              have HBN := Lib.hid (show w7.heap.size ≠ d ∧ w7.heap.size ≠ m ∧ w7.heap.size ≠ d2 ∧ w7.heap.size ≠ m2 ∧ d2 < w7.heap.size ∧ m2 < w7.heap.size by
                have h1 := block_lt_of_cell HMID.out.clerk.1
                have h2 := HMID.out.clerk.2.2.2.2.1.lt
                have h3 := block_lt_of_cell HC27.out.1
                have h4 := HC27.out.2.2.2.2.1.lt
                simp at h1 h3
                omega)
              refine (number_any d m sf nx f k n ⟨#[]⟩ _ HMA.out.clerk (by omega) HWK.out nb0 (by omega) (HMID.out.flow k).1).mono ?_
              intro e w8 hp
              obtain ⟨he, hM8, _⟩ := id hp
              obtain ⟨sf', hnext⟩ := parts_num (i := xs.length + j) HMA.out HAP.out hsf n1 (Mod.refl _ _) HN.out hp
              have hblk : w8.heap[w7.heap.size]? = some (.cells #[.int .i64 k, .int .u64 n, .string ⟨#[]⟩] 29) := (hM8.block _ (by simp) (by have := HBN.out; simp; omega)).trans (heap_new _ _)
              have z0 : w8.cell? ⟨w7.heap.size, 0, none⟩ = some (.int .i64 k) := cell_in hblk rfl
              have z1 : w8.cell? ⟨w7.heap.size, 1, none⟩ = some (.int .u64 n) := cell_in hblk rfl
              have z2 : w8.cell? ⟨w7.heap.size, 2, none⟩ = some (.string ⟨#[]⟩) := cell_in hblk rfl
              have HC8 := Lib.hid (HC27.out.mod (((Mod.refl [d, m] w7).alloc (.cells #[.int .i64 k, .int .u64 n, .string ⟨#[]⟩] 29)).trans hM8) (by have := HD2.out; simp; omega) (by have := HD2.out; simp; omega))
              have hsk := HSAME.out k (by have := HK5.out; simp [isNode]; omega)
              have hec := numErr_congr (nx := nx) n hsk
              have HEC := Lib.hid hec
              have HSK := Lib.hid hsk
              obtain ⟨er, her⟩ : ∃ er, numErr nx f k n = er := ⟨_, rfl⟩
              obtain ⟨vv, hvv⟩ : ∃ vv, (if er = 0 then nx else 0) = vv := ⟨_, rfl⟩
              rw [her, hvv] at he
              have HER := Lib.hid her
              have HVV := Lib.hid hvv
              subst he
              have HNX := Lib.hid hnext
              clear hnext hp hblk hsk hec hM8 her hvv
              go_wp2_with fail
              refine (number_any d2 m2 sf2 nx f2 k n ⟨#[]⟩ _ HC8.out (by omega) HWK.out nb0 (by omega) (by rw [HSK.out]; exact (HMID.out.flow k).1)).mono ?_
              intro e w9 hp
              obtain ⟨he, hM9, sf3, hs3, hC9⟩ := hp
              have he2 : e = .returned (.tuple #[.int .u64 vv, .int .i64 er]) := by rw [he, HEC.out, HER.out, HVV.out]
              subst he2
              have HNX9 := Lib.hid (HNX.out.mod' hM9 (by have := HD2.out; simp; omega) (by have := HD2.out; simp; omega))
              have HC9 := Lib.hid (show ClerkAt w9 d2 m2 (numNx nx f k n) (numF nx f2 k n) sf3 by
                have h := hC9
                rw [HEC.out] at h
                unfold numNx numF
                rw [HEC.out]
                exact h)
              have HSAME9 := Lib.hid (show ∀ y, isNode y = true → (numF nx f2 k n y).getD 0 = (numF nx f k n y).getD 0 by
                intro y hy
                rw [numF_getD, numF_getD, HEC.out]
                split
                · rfl
                · exact HSAME.out y hy)
              have q1 : (vv != vv) = false := by simp
              have q2 : (er != er) = false := by simp
              clear he hM9 hC9 z0 z1 z2
              go_wp2_with fail
              go_roundw
              case rel => exact ⟨j + 1, _, _, _, _, _, _, sf3, by go_num, by omega, by rw [← Nat.add_assoc]; exact HNX9.out, HC9.out, by omega, HSAME9.out⟩
              case measure => simp [intOf]; omega
            · go_wp2_with fail
              refine (cnext_any d m sf nx f _ HI.out.clerk).mono ?_
              rintro e w7 ⟨rfl, rfl⟩
              go_wp2_with fail
              refine (cnext_any d2 m2 sf2 nx f2 _ HC2.out).mono ?_
              rintro e w8 ⟨rfl, rfl⟩
              go_wp2_with fail
              go_ret
              exact ⟨by simp, HI.out.mod⟩

end Go.Proofs.Ytogaamnlokgjgaa
