/-
  The walk of the law OrderNumbers.
-/
import Derived.Test.YtjeonlpojkajcaaOrdA
import Derived.Test.YtjeonlpojkajcaaClerkN
import Derived.Test.YtjeonlpojkajcaaClerkB
import Derived.Test.YtjeonlpojkajcaaClerkM
import Derived.Test.YtjeonlpojkajcaaRefClk
import Derived.Test.YtjeonlpojkajcaaMsgArg
namespace Go.Proofs.Ytjeonlpojkajcaa
open Go.RowKit

/-- A region whose ways all end alike. -/
theorem wp_merge {P : Program} {c : Code} {Q : Exit → Act → World → Prop} {a : Act} {w : World} (A : Act) (B : World) (h : c.wp P (NoPanic fun e a' w' => e = .normal ∧ a' = A ∧ w' = B) a w) (hc : Q .normal A B) : c.wp P Q a w :=
  Code.wp_mono (fun e a' w' h => by
    have h2 := NoPanic.imp _ _ _ h
    obtain ⟨rfl, rfl, rfl⟩ := h2
    exact hc) h

structure NumInv (w0 wr : World) (d m r i : Nat) (nx : Int) (f : Int → Option Int) (sf : Nat) : Prop where
  clerk : ClerkAt wr d m nx f sf
  sf : sf ≤ 100 + i
  ref : RefAt wr r nx f
  low : ∀ x, 0 ≤ (f x).getD 0 ∧ (f x).getD 0 ≤ 18446744073709551615
  out : ∀ x, isNode x = false → (f x).getD 0 = 0
  mod : Mod [] w0 wr

theorem NumInv.last {w0 wr : World} {d m r i : Nat} {nx : Int} {f : Int → Option Int} {sf : Nat} (h : NumInv w0 wr d m r i nx f sf) (x : Int) : lastOf f x = (f x).getD 0 := by
  unfold lastOf
  cases hb : isNode x with
  | true => rfl
  | false => rw [h.out x hb]; rfl

theorem NumInv.mod' {w0 wr w' : World} {d m r i : Nat} {nx : Int} {f : Int → Option Int} {sf : Nat} (h : NumInv w0 wr d m r i nx f sf) (hm : Mod [] wr w') : NumInv w0 w' d m r i nx f sf :=
  ⟨h.clerk.mod hm (by simp) (by simp), h.sf, h.ref.mod hm (by simp), h.low, h.out, h.mod.trans hm⟩

theorem numErr_node {nx : Int} {f : Int → Option Int} {s n : Int} (h : numErr nx f s n = 0) : isNode s = true := by
  unfold numErr at h
  cases hb : isNode s with
  | true => rfl
  | false => rw [if_pos (.inl hb)] at h; cases h

theorem num_next {w0 wr W w4 w5 : World} {d m r i sf : Nat} {nx s n : Int} {f : Int → Option Int} {e e' : Ending} (h : NumInv w0 wr d m r i nx f sf) (hW : Mod [] wr W) (h4 : NumPost W d m sf nx f s n e w4) (h5 : RNumPost w4 r nx f s n e' w5)
    (hr : r ≠ d ∧ r ≠ m) (h0 : w0.heap.size ≤ d ∧ w0.heap.size ≤ m ∧ w0.heap.size ≤ r) (hn : 0 ≤ n ∧ n ≤ 18446744073709551615) : ∃ sf', NumInv w0 w5 d m r (i + 1) (numNx nx f s n) (numF nx f s n) sf' := by
  obtain ⟨_, hM4, sf', hs', hC4⟩ := h4
  obtain ⟨_, hM5, hR5⟩ := h5
  refine ⟨sf', ClerkAt.mod hC4 hM5 (by simp; omega) (by simp; omega), by have := h.sf; omega, hR5, fun x => ?_, fun x hx => ?_, ((h.mod.trans hW).step hM4 (by simp; omega)).step hM5 (by simp; omega)⟩
  · rw [numF_getD]
    split
    · exact hn
    · exact h.low x
  · rw [numF_getD, if_neg]
    · exact h.out x hx
    · rintro ⟨h1, rfl⟩
      rw [numErr_node h1] at hx
      cases hx

def NMapRel (w0 : World) (lb n : Nat) (v : Value) (wr : World) : Prop :=
  ∃ (i sg : Nat) (g : Int → Option Int), v = .int .i64 i ∧ i ≤ n ∧ sg ≤ i ∧ OMap Try.prog 3 22 .u64 wr lb g sg ∧ (∀ x, 0 ≤ (g x).getD 0 ∧ (g x).getD 0 ≤ 18446744073709551615) ∧ Mod [] w0 wr

def NumRel (w0 : World) (d m r n : Nat) (v : Value) (wr : World) : Prop :=
  ∃ (i : Nat) (nx : Int) (f : Int → Option Int) (sf : Nat), v = .int .i64 i ∧ i ≤ n ∧ NumInv w0 wr d m r i nx f sf

theorem cut_low {g : Int → Option Int} (h : ∀ x, 0 ≤ (g x).getD 0 ∧ (g x).getD 0 ≤ 18446744073709551615) (x : Int) : 0 ≤ (cutNode g x).getD 0 ∧ (cutNode g x).getD 0 ≤ 18446744073709551615 := by
  unfold cutNode
  split
  · exact h x
  · simp
theorem cut_out {g : Int → Option Int} (x : Int) (h : isNode x = false) : (cutNode g x).getD 0 = 0 := by
  unfold cutNode
  rw [if_neg (by simp [h])]
  rfl

set_option maxRecDepth 100000 in
set_option maxHeartbeats 16000000 in
theorem walk_OrderNumbers (w : World) (next : Int) (next0 : 0 ≤ next) (next1 : next ≤ 18446744073709551615)
    (a : Option Addr) (c : Nat) (xs : List Int) (rd : RdInts .i64 w a xs) (wf : ∀ x ∈ xs, (Lit.int .i64 x).wf = true) (_nc : a = none → c = 0)
    (b : Option Addr) (c2 : Nat) (ys : List Int) (rd2 : RdInts .u64 w b ys) (wf2 : ∀ x ∈ ys, (Lit.int .u64 x).wf = true) (_nc2 : b = none → c2 = 0)
    (l : Option Addr) (c3 : Nat) (ms : List M) (rd3 : MsgsAt w l ms) (near : Bool) :
    Calls Try.prog 3 #[.int .u64 next, .slice a xs.length c, .slice b ys.length c2, .slice l ms.length c3, .bool near] w (TruePost w) := by
  have RD := Lib.hid rd
  have RD2 := Lib.hid rd2
  have RD3 := Lib.hid rd3
  have WF := Lib.hid wf
  have WF2 := Lib.hid wf2
  have NX := Lib.hid (And.intro next0 next1)
  have hmm := @run_makeMap Try.prog
  clear rd rd2 rd3 wf wf2 _nc _nc2 next0 next1
  by_cases h1 : (80 : Int) < xs.length
  · go_enter Try.func3, Try.ntmps3
    go_wp2_with fail
    refine (shown18 _).mono ?_
    rintro e w1 ⟨rfl, hM⟩
    have HM := Lib.hid hM
    clear hM
    go_wp2_with fail
    go_ret
    exact ⟨rfl, HM.out⟩
  by_cases h2 : (80 : Int) < ys.length
  · go_enter Try.func3, Try.ntmps3
    go_wp2_with fail
    refine (shown18 _).mono ?_
    rintro e w1 ⟨rfl, hM⟩
    have HM := Lib.hid hM
    clear hM
    go_wp2_with fail
    go_ret
    exact ⟨rfl, HM.out⟩
  by_cases h3 : (200 : Int) < ms.length
  · go_enter Try.func3, Try.ntmps3
    go_wp2_with fail
    refine (shown18 _).mono ?_
    rintro e w1 ⟨rfl, hM⟩
    have HM := Lib.hid hM
    clear hM
    go_wp2_with fail
    go_ret
    exact ⟨rfl, HM.out⟩
  go_enter Try.func3, Try.ntmps3
  go_wp2_with fail
  refine (shown18 _).mono ?_
  rintro e w1 ⟨rfl, hM⟩
  have HM1 := Lib.hid hM
  clear hM
  go_wp2_with fail
  clear hmm
  have HL1 := Lib.hid HM1.out.size
  go_loopw [12] (fun v wr => NMapRel w w1.heap.size (min xs.length ys.length) v wr) (fun v _ => min xs.length ys.length - (intOf v).toNat)
  case atStart => exact ⟨0, 0, fun _ => none, rfl, Nat.zero_le _, Nat.le_refl _, OMap.made _ _ _ _ _, fun _ => ⟨Int.le_refl 0, by show (0 : Int) ≤ _; omega⟩, HM1.out.alloc _⟩
  case round =>
    obtain ⟨i, sg, g, rfl, hi, hsg, hmap, hlow, hmod⟩ := hrel
    have HMP := Lib.hid hmap
    have HLO := Lib.hid hlow
    have HMD := Lib.hid hmod
    clear hmap hlow hmod
    by_cases hin : (i : Int) < xs.length ∧ (i : Int) < ys.length
    · obtain ⟨hlx, hly⟩ := hin
      have hlx' : i < xs.length := by omega
      have hly' : i < ys.length := by omega
      obtain ⟨x, hx⟩ : ∃ x, xs[i]? = some x := ⟨_, List.getElem?_eq_getElem hlx'⟩
      obtain ⟨y, hy⟩ : ∃ y, ys[i]? = some y := ⟨_, List.getElem?_eq_getElem hly'⟩
      obtain ⟨ad, rfl, _, hcx⟩ := (RD.out.mod HMD.out (by simp)) (by intro h; rw [h] at hlx'; simp at hlx')
      obtain ⟨bd, rfl, _, hcy⟩ := (RD2.out.mod HMD.out (by simp)) (by intro h; rw [h] at hly'; simp at hly')
      have cx := hcx i x hx
      have cy := hcy i y hy
      have hwx := WF.out x (List.mem_of_getElem? hx)
      have hwy := WF2.out y (List.mem_of_getElem? hy)
      have HWY := Lib.hid hwy
      obtain ⟨w3, hput, hO3, hgr⟩ := (HMP.out.drew).run_put 27 Try.underlying3 Try.underlying27 Try.underlying22 (by unfold maxLen; omega) x y hwx hwy
      have HO3 := Lib.hid hO3
      have HM3 := Lib.hid (HMD.out.drew.grown hgr (.inr HL1.out))
      clear hcx hcy hx hy hwx hwy hO3 hgr
      go_wp2_with fail
      go_region
      go_wp2_with fail
      go_roundw
      case rel =>
        refine ⟨i + 1, _, _, by go_num, by omega, by unfold sizeO; split <;> omega, HO3.out, fun z => ?_, HM3.out⟩
        rw [updO_getD]
        split
        · exact wf_bounds_u64 HWY.out
        · exact HLO.out z
      case measure => simp [intOf]; omega
    · have hor : (xs.length : Int) ≤ i ∨ ((i : Int) < xs.length ∧ (ys.length : Int) ≤ i) := by omega
      clear hin
      rcases hor with hlx | ⟨hlx, hly⟩
      all_goals
        go_wp2_with fail
        refine (newclerk_map next w1.heap.size sg g _ NX.out.1 NX.out.2 HMP.out (by omega)).mono ?_
        rintro e w2 ⟨d, m, sz, rfl, hd, hm, hsz, hC, hM⟩
        have HC := Lib.hid hC
        have HM2 := Lib.hid (HMD.out.trans hM)
        have HMP2 := Lib.hid (HMP.out.mod hM (by simp))
        have HD := Lib.hid (show w.heap.size ≤ d ∧ w.heap.size ≤ m by have := HMD.out.size; omega)
        clear hC hM hd hm
        go_wp2_with fail
        refine (rnewclerk_map next w1.heap.size sg g _ NX.out.1 NX.out.2 HMP2.out).mono ?_
        rintro e w3 ⟨r, rfl, hr, hR, hM⟩
        have HR := Lib.hid hR
        have HM3 := Lib.hid (HM2.out.trans hM)
        have HC3 := Lib.hid (HC.out.mod hM (by simp) (by simp))
        have HD3 := Lib.hid (show (r ≠ d ∧ r ≠ m) ∧ w.heap.size ≤ d ∧ w.heap.size ≤ m ∧ w.heap.size ≤ r by
          have h1 := block_lt_of_cell HC.out.1
          have h2 := HC.out.2.2.2.2.1.lt
          have h3 := HM2.out.size
          have h4 := HD.out
          simp at h1
          omega)
        clear hR hM hr
        go_wp2_with fail
        go_loopw [15] (fun v wr => NumRel w d m r ms.length v wr) (fun v _ => ms.length - (intOf v).toNat)
        case atStart => exact ⟨0, max 1 next, cutNode g, sz, rfl, Nat.zero_le _, HC3.out, by omega, HR.out, cut_low HLO.out, cut_out, HM3.out⟩
        case round =>
          clear HMP HMP2 HC HR HC3 HLO HM2 HMD HM3
          obtain ⟨i, nx, f, sf, rfl, hi, hinv⟩ := hrel
          have HI := Lib.hid hinv
          have hsf := hinv.sf
          clear hinv
          by_cases hlx : (i : Int) < ms.length
          · have hlx' : i < ms.length := by omega
            obtain ⟨⟨s, num, t⟩, hx⟩ : ∃ x, ms[i]? = some x := ⟨_, List.getElem?_eq_getElem hlx'⟩
            obtain ⟨bl, ol, rfl, _, hcx⟩ := (RD3.out.mod HI.out.mod) (by intro h; rw [h] at hlx'; simp at hlx')
            obtain ⟨x0, x1, x2, hws, hn0, hn1⟩ := hcx i _ hx
            simp only at x0 x1 x2 hws hn0 hn1
            have HWS := Lib.hid hws
            obtain ⟨W, hW⟩ : ∃ W, wr.alloc (.cells #[.int .i64 s, .int .u64 num, .string t] 33) = W := ⟨_, rfl⟩
            have hblk : W.heap[wr.heap.size]? = some (.cells #[.int .i64 s, .int .u64 num, .string t] 33) := by rw [← hW]; exact heap_new _ _
            have z0 : W.cell? ⟨wr.heap.size, 0, none⟩ = some (.int .i64 s) := cell_in hblk rfl
            have z1 : W.cell? ⟨wr.heap.size, 1, none⟩ = some (.int .u64 num) := cell_in hblk rfl
            have z2 : W.cell? ⟨wr.heap.size, 2, none⟩ = some (.string t) := cell_in hblk rfl
            have y1 : W.frozen? ⟨wr.heap.size, 1, none⟩ = false := free_in hblk
            have HMW := Lib.hid (show Mod [] wr W by rw [← hW]; exact (Mod.refl _ _).alloc _)
            have HRW := Lib.hid (HI.out.ref.mod HMW.out (by simp))
            have HHW := Lib.hid hW
            clear hcx hx hws hblk hW
            obtain ⟨cl, hcl⟩ : ∃ cl, (f s).getD 0 = cl := ⟨_, rfl⟩
            have hcb := HI.out.low s
            rw [hcl] at hcb
            obtain ⟨hc0, hc1⟩ := hcb
            have HCL := Lib.hid ((HI.out.last s).trans hcl)
            clear hcl
            cases near
            case' false =>
              go_wp2_with fail
              rw [HHW.out]
              obtain ⟨n, rfl⟩ : ∃ n, n = num := ⟨_, rfl⟩
              obtain ⟨W2, rfl⟩ : ∃ W2, W2 = W := ⟨_, rfl⟩
              have HMW2 := HMW
              have hnb := And.intro hn0 hn1
            case' true =>
              obtain ⟨q, hq⟩ : ∃ q, num.tmod 3 = q := ⟨_, rfl⟩
              have hq3 : 0 ≤ q ∧ q < 3 := by rw [Int.tmod_eq_emod_of_nonneg hn0] at hq; omega
              obtain ⟨n, hn⟩ : ∃ n, IntKind.u64.wrap (cl + q) = n := ⟨_, rfl⟩
              have hnb : 0 ≤ n ∧ n ≤ 18446744073709551615 := by simp [IntKind.wrap, IntKind.bits, IntKind.signed] at hn; omega
              go_wp2_with fail
              rw [HHW.out]
              apply wp_merge (B := (W.setCell ⟨wr.heap.size, 1, none⟩ (.int .u64 n)).drew)
              case' h =>
                go_region_with (go_at_call 7; refine (rlast_any r nx f s cl _ (HRW.out.mod (Mod.refl [] _).drew (by simp)) HCL.out).mono ?_; rintro e w5 ⟨rfl, rfl⟩)
                all_goals exact NoPanic.normal ⟨rfl, rfl, rfl⟩
              case' hc =>
                have p0 : ((W.setCell ⟨wr.heap.size, 1, none⟩ (.int .u64 n)).drew).cell? ⟨wr.heap.size, 0, none⟩ = some (.int .i64 s) := (cell_set_off _ _ _ _ (by simp)).trans z0
                have p1 : ((W.setCell ⟨wr.heap.size, 1, none⟩ (.int .u64 n)).drew).cell? ⟨wr.heap.size, 1, none⟩ = some (.int .u64 n) := cell_set_same z1
                have p2 : ((W.setCell ⟨wr.heap.size, 1, none⟩ (.int .u64 n)).drew).cell? ⟨wr.heap.size, 2, none⟩ = some (.string t) := (cell_set_off _ _ _ _ (by simp)).trans z2
                have HMW2 := Lib.hid (show Mod [] wr ((W.setCell ⟨wr.heap.size, 1, none⟩ (.int .u64 n)).drew) from (HMW.out.setCell (.inr (Nat.le_refl _)) _).drew)
                generalize ((W.setCell ⟨wr.heap.size, 1, none⟩ (.int .u64 n)).drew) = W2 at p0 p1 p2 HMW2 ⊢
                clear z0 z1 z2
                have z0 := p0
                have z1 := p1
                have z2 := p2
                clear p0 p1 p2 hq hq3 hn hn0 hn1
                go_wp2_with fail
            all_goals
              clear y1 HRW HHW HCL x0 x1 x2
              obtain ⟨hn0, hn1⟩ := hnb
              have HR2 := Lib.hid (HI.out.ref.mod HMW2.out (by simp))
              have HC2 := Lib.hid (HI.out.clerk.mod HMW2.out (by simp) (by simp))
              have HBN := Lib.hid (show wr.heap.size ≠ d ∧ wr.heap.size ≠ m ∧ wr.heap.size ≠ r ∧ wr.heap.size < W2.heap.size by
                have h1 := block_lt_of_cell HI.out.clerk.1
                have h2 := HI.out.clerk.2.2.2.2.1.lt
                have h3 := HI.out.ref.lt
                have h4 := block_lt_of_cell z0
                simp at h1 h4
                omega)
              refine (number_any d m sf nx f s n t _ HC2.out (by omega) HWS.out hn0 hn1 (HI.out.low s).1).mono ?_
              intro e w4 hp4
              obtain ⟨he, hM4, _⟩ := id hp4
              obtain ⟨er, her⟩ : ∃ er, numErr nx f s n = er := ⟨_, rfl⟩
              obtain ⟨vv, hvv⟩ : ∃ vv, (if er = 0 then nx else 0) = vv := ⟨_, rfl⟩
              rw [her, hvv] at he
              have HER := Lib.hid her
              have HVV := Lib.hid hvv
              have HP4 := Lib.hid hp4
              have hb4 : wr.heap.size ∉ [d, m] := by have := HBN.out; simp; omega
              have z04 := (hM4.cell (p := ⟨wr.heap.size, 0, none⟩) HBN.out.2.2.2 hb4).trans z0
              have z14 := (hM4.cell (p := ⟨wr.heap.size, 1, none⟩) HBN.out.2.2.2 hb4).trans z1
              have z24 := (hM4.cell (p := ⟨wr.heap.size, 2, none⟩) HBN.out.2.2.2 hb4).trans z2
              have HR4 := Lib.hid (HR2.out.mod hM4 (by have := HD3.out; simp; omega))
              have HL4 := Lib.hid hM4.size
              subst he
              clear hp4 her hvv hM4 hb4 z0 z1 z2
              go_wp2_with fail
              refine (rnumber_any r nx f s n t _ HR4.out hn0 hn1 (HI.out.low s).1).mono ?_
              intro e w5 hp5
              obtain ⟨he, hM5, _⟩ := id hp5
              have he2 : e = .returned (.tuple #[.int .u64 vv, .int .i64 er]) := by rw [he, HER.out, HVV.out]
              subst he2
              obtain ⟨sf', hnext⟩ := num_next HI.out HMW2.out HP4.out hp5 HD3.out.1 HD3.out.2 ⟨hn0, hn1⟩
              have z05 := (hM5.cell (p := ⟨wr.heap.size, 0, none⟩) (by have := HBN.out; have := HL4.out; simp; omega) (by have := HBN.out; simp; omega)).trans z04
              obtain ⟨nx', hnx'⟩ : ∃ nx', numNx nx f s n = nx' := ⟨_, rfl⟩
              obtain ⟨f', hf'⟩ : ∃ f', numF nx f s n = f' := ⟨_, rfl⟩
              rw [hnx', hf'] at hnext
              obtain ⟨cl2, hcl2⟩ : ∃ cl2, (f' s).getD 0 = cl2 := ⟨_, rfl⟩
              have HN := Lib.hid hnext
              have HCL2 := Lib.hid hcl2
              have HLO := Lib.hid ((hnext.last s).trans hcl2)
              have q1 : (vv != vv) = false := by simp
              have q2 : (er != er) = false := by simp
              have q3 : (nx' != nx') = false := by simp
              have q4 : (cl2 != cl2) = false := by simp
              clear he hp5 hM5 z04 z14 z24 hnx' hf' hcl2 hnext HP4 HER HVV HR4 HL4 HC2 HR2 HMW2
              go_wp2_with fail
              go_quiet (first
                | (go_at_call 10; refine Calls.quiet_of_same ((cnext_any d m sf' nx' f' _ (HN.out.clerk.mod ((Mod.refl [] _).drewN _) (by simp) (by simp))).mono (fun _ _ h => ⟨h.1, h.2.symm⟩)))
                | (go_at_call 11; refine Calls.quiet_of_same ((rnext_any r nx' f' _ (HN.out.ref.mod ((Mod.refl [] _).drewN _) (by simp))).mono (fun _ _ h => ⟨h.1, h.2.symm⟩)))
                | (go_at_call 12; refine Calls.quiet_of_same ((clast_any d m sf' nx' f' s cl2 _ (HN.out.clerk.mod ((Mod.refl [] _).drewN _) (by simp) (by simp)) HWS.out HCL2.out).mono (fun _ _ h => ⟨h.1, h.2.symm⟩)))
                | (go_at_call 7; refine Calls.quiet_of_same ((rlast_any r nx' f' s cl2 _ (HN.out.ref.mod ((Mod.refl [] _).drewN _) (by simp)) HLO.out).mono (fun _ _ h => ⟨h.1, h.2.symm⟩))))
              go_wp2_with fail
              go_roundw
              case rel => exact ⟨i + 1, _, _, sf', by go_num, by omega, HN.out.mod' ((Mod.refl _ _).drewN _)⟩
              case measure => simp [intOf]; omega
          · go_wp2_with fail
            obtain ⟨wB, rfl⟩ : ∃ wB, wB = wr := ⟨_, rfl⟩
            go_loopw [21] (fun v w' => ∃ j : Int, v = .int .i64 j ∧ -2 ≤ j ∧ j ≤ 70 ∧ w' = wB) (fun v _ => (70 - intOf v).toNat)
            case atStart => exact ⟨-2, rfl, by omega, by omega, rfl⟩
            case round =>
              obtain ⟨j, rfl, hj0, hj1, rfl⟩ := hrel
              obtain ⟨cl, hcl⟩ : ∃ cl, (f j).getD 0 = cl := ⟨_, rfl⟩
              have HCL := Lib.hid hcl
              have HLA := Lib.hid ((HI.out.last j).trans hcl)
              have HWJ := Lib.hid (show (Lit.int .i64 j).wf = true from WalkArith.wf_i64 ⟨by omega, by omega⟩)
              have hjw : wrap64 (j + 1) = j + 1 := by unfold wrap64; omega
              have q4 : (cl != cl) = false := by simp
              clear hcl
              by_cases hj70 : j < 70
              · go_wp2_with fail
                refine (clast_any d m sf nx f j cl _ HI.out.clerk HWJ.out HCL.out).mono ?_
                rintro e w6 ⟨rfl, rfl⟩
                go_wp2_with fail
                refine (rlast_any r nx f j cl _ HI.out.ref HLA.out).mono ?_
                rintro e w6 ⟨rfl, rfl⟩
                go_wp2_with fail
                go_roundw
                case rel => exact ⟨j + 1, by go_num, by omega, by omega, by trivial⟩
                case measure => simp [intOf]; omega
              · go_wp2_with fail
                refine (cnext_any d m sf nx f _ HI.out.clerk).mono ?_
                rintro e w6 ⟨rfl, rfl⟩
                go_wp2_with fail
                refine (rnext_any r nx f _ HI.out.ref).mono ?_
                rintro e w6 ⟨rfl, rfl⟩
                go_wp2_with fail
                go_ret
                exact ⟨by simp, HI.out.mod⟩

end Go.Proofs.Ytjeonlpojkajcaa
