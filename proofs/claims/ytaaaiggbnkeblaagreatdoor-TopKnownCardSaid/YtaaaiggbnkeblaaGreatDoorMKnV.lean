/-
  TopKnown: Hear, by what the kind's function does.
-/
import Derived.Test.YtaaaiggbnkeblaaGreatDoorMKnM
import Derived.Defers
import Derived.Recover
namespace Go.Proofs.YtaaaiggbnkeblaaGreatDoor
set_option linter.unusedSimpArgs false
set_option linter.unusedVariables false
open Go.RowKit

/-- What is asked of a normal end alone. -/
theorem wp_then_only {P : Program} {c : Code} {J : Act → World → Prop} {Q : Exit → Act → World → Prop} {a : Act} {w : World} (h : c.wp P (Exit.then J (fun _ _ _ => False)) a w) : c.wp P (Exit.then J Q) a w :=
  Code.wp_mono (fun e a w h => by
    cases e with
    | normal => exact h
    | _ => exact h.elim) h

theorem node_is (k : Int) (h : 0 ≤ k ∧ k < 64) (w : World) : Calls Tryz.prog 61 #[.int .i64 k] w fun e w' => e = .returned (.bool true) ∧ w = w' := by
  obtain ⟨h0, h1⟩ := h
  have q1 : decide (k ≥ (0 : Int)) = true := by simpa using h0
  have q2 : decide (k < (64 : Int)) = true := by simpa using h1
  go_enter Tryz.func61, Tryz.ntmps61
  go_wp2_with fail
  go_ret
  exact ⟨by simp [*], rfl⟩

theorem hear_idle (p q : Value) (w : World) : CallsD Tryz.prog 62 #[p, q] .returning w fun e u' w' => e = .returned (.tuple #[]) ∧ u' = .returning ∧ w' = w := by
  refine callsD_of_wpS Tryz.func62 rfl fun c₀ cs hu => ?_
  apply wpS_seq
  apply wpS_region
  simp [wpOpsS, go_sem, recoverD, hu, Tryz.ntmps62, Exit.thenS]
  refine wpS_of_wp ?_
  go_wp2
  cases c₀
  simp_all [bodyPostS, results, Tryz.results62]

def HearPost (Q : Value → World → World → Prop) (w : World) (e : Ending) (w' : World) : Prop :=
  ∃ y w1 w2, e = .returned (.tuple #[y, .int .i64 0]) ∧ Mod [] w w1 ∧ w.heap.size + 1 + 1 + 1 + 1 ≤ w1.heap.size ∧ Q y w1 w2 ∧ Mod [w.heap.size + 1, w.heap.size + 1 + 1] w2 w'

theorem hear_rows {w W0 w1 w5 : World} {B : Nat} {y : Value} {Q : Value → World → World → Prop} (hb : KRow W0 (B + 1) [.slice none 0 0]) (hc : KRow W0 (B + 1 + 1) [.int .i64 0]) (hm : Mod [] W0 w1) (hq : Q y w1 w5) (hQ : ∀ y a b, Q y a b → ∃ T, Mod T a b ∧ ∀ t ∈ T, t < w.heap.size) (hB : w.heap.size = B) : KRow w5 (B + 1) [.slice none 0 0] ∧ KRow w5 (B + 1 + 1) [.int .i64 0] := by
  obtain ⟨T, hT, hTl⟩ := hQ _ _ _ hq
  exact ⟨(hb.same hm).mod hT (fun h => by have := hTl _ h; omega), (hc.same hm).mod hT (fun h => by have := hTl _ h; omega)⟩

theorem hear_set1 {w5 : World} {B : Nat} {u : Value} (hb : KRow w5 (B + 1) [.slice none 0 0]) (hc : KRow w5 (B + 1 + 1) [.int .i64 0]) : KRow ((w5.setCell ⟨B + 1, 0, none⟩ u).setCell ⟨B + 1 + 1, 0, none⟩ (.int .i64 0)) (B + 1) [u] :=
  (hb.set 0 u (by simp)).mod ((Mod.refl [B + 1 + 1] _).setCell (.inl (by simp)) _) (by simp)
theorem hear_set2 {w5 : World} {B : Nat} {u : Value} (hb : KRow w5 (B + 1) [.slice none 0 0]) (hc : KRow w5 (B + 1 + 1) [.int .i64 0]) : KRow ((w5.setCell ⟨B + 1, 0, none⟩ u).setCell ⟨B + 1 + 1, 0, none⟩ (.int .i64 0)) (B + 1 + 1) [.int .i64 0] :=
  (hc.mod ((Mod.refl [B + 1] w5).setCell (p := ⟨B + 1, 0, none⟩) (.inl (by simp)) u) (by simp)).set 0 _ (by simp)
theorem hear_setm {w5 : World} {B : Nat} (u x : Value) : Mod [B + 1, B + 1 + 1] w5 ((w5.setCell ⟨B + 1, 0, none⟩ u).setCell ⟨B + 1 + 1, 0, none⟩ x) :=
  ((Mod.refl _ _).setCell (.inl (by simp)) _).setCell (.inl (by simp)) _

set_option maxRecDepth 100000 in
set_option maxHeartbeats 8000000 in
theorem hear_by {K : KS} {w : World} {G : List Nat} {n f B0 : Nat} (kd : Int) (F : Nat) (s : Int) (fo : Nat) (v l : Value) (L : List Nat) (Q : Value → World → World → Prop) (h : K.At w G n) (ht : Tab w) (hn : 2 ≤ n ∧ n ≤ 6) (hf : K.has = 2 ^ n - 1) (hme : K.me < n) (hfn : f < n) (hfm : f ≠ K.me) (hfo : fo < 6)
    (hkd : (kd = 1 ∧ F = 58) ∨ (kd = 2 ∧ F = 59)) (hv : Upds w B0 v (L.map calmU)) (hl : 0 < L.length ∧ L.length ≤ 100) (hL : ∀ x ∈ L, x < n)
    (hcall : ∀ w1, Mod [] w w1 → w.heap.size + 1 + 1 + 1 + 1 ≤ w1.heap.size → Calls Tryz.prog F #[.pointer (some ⟨K.d, 0, none⟩), .agg #[.int .i64 kd, .int .i64 f, .int .i64 K.me, .int .u64 s, .int .i64 fo, v]] w1 fun e w2 => ∃ a m c, e = .returned (.slice a m c) ∧ Q (.slice a m c) w1 w2) (hQ : ∀ y a b, Q y a b → ∃ T, Mod T a b ∧ ∀ t ∈ T, t < w.heap.size) :
    Calls Tryz.prog 15 #[.pointer (some ⟨K.d, 0, none⟩), .agg #[.int .i64 kd, .int .i64 f, .int .i64 K.me, .int .u64 s, .int .i64 fo, v], l] w (HearPost Q w) := by
  obtain ⟨ln, hln⟩ : ∃ ln, L.length = ln := ⟨_, rfl⟩
  have hml : (L.map calmU).length = ln := by rw [List.length_map]; exact hln
  obtain ⟨g, c, rfl, _, _⟩ := hv.form (by rw [hml]; omega)
  have hv' : w.ownsRow B0 55 3 (.slice (some ⟨g, 0, none⟩) ln c) ln (uflat (L.map calmU)) := by
    have h0 := hv
    unfold Upds at h0
    rw [hml] at h0
    exact h0
  rw [hml] at hv hcall ⊢
  have HNW := Lib.hid (ownsRow_cells hv')
  have HL := Lib.hid (And.intro hL (And.intro hln (And.intro hl hQ)))
  have hmf : ∀ (fn : Fn) (first cap : Array Value) (w : World), (Instr.makeFunc fn first cap).run Tryz.prog w = .ok (.func fn first cap) w := fun _ _ _ _ => rfl
  have hsf : ∀ (a : Addr) (fn : Fn) (p q : Array Value) (w : World) (m : Mode), (store a (.func fn p q) m).run Tryz.prog w = stored Tryz.prog w a (.func fn p q) m := fun a fn p q w m => run_store Tryz.prog w a _ m rfl
  have hsn : ∀ (a : Addr) (w : World) (m : Mode), (store a .nilFunc m).run Tryz.prog w = stored Tryz.prog w a .nilFunc m := fun a w m => run_store Tryz.prog w a _ m rfl
  have HN := Lib.hid (node_is f (by omega))
  have HO := Lib.hid (node_is fo (by omega))
  have H := Lib.hid h
  have HTT := Lib.hid ht
  have HKN := Lib.hid (fun k (hk : k < n) => K.knows_full hn hf hk)
  have HCALL := Lib.hid hcall
  have htk := fun (k : Nat) (hk : k < n) (w' : World) (hm : Mod [] w w') => ktake_old (.int .i64 f) l (h.same hm) (ht.mod hm (by simp)) (show k < 6 by omega) (K.knows_full hn hf hk)
  have hget := fun (w' : World) (hm : Mod [] w w') => kget (h.same hm) (show f < 6 by omega) (K.knows_full hn hf hfn)
  obtain ⟨d, hd⟩ : ∃ d, K.d = d := ⟨_, rfl⟩
  obtain ⟨r, hr⟩ : ∃ r, K.r = r := ⟨_, rfl⟩
  obtain ⟨me, hme0⟩ : ∃ me, K.me = me := ⟨_, rfl⟩
  have hdl := h.lt
  have c0 := h.roll
  have c2 := h.me
  have c9 := h.gone
  rw [hd] at htk hdl c2 c9
  rw [hr] at hget
  rw [hd, hr] at c0
  rw [hme0] at c2 hfm
  rw [hd, hme0]
  simp only [hd, hme0] at HCALL
  have HTK := Lib.hid htk
  have HGE := Lib.hid hget
  have hfe : ((f : Int) == (me : Int)) = false := by rw [beq_eq_false_iff_ne]; omega
  have hCD := Lib.hid (And.intro c0 (And.intro c2 c9))
  clear hcall htk hget h ht hv hv' hml hL hQ hf hme hd hr hme0
  obtain ⟨W0, hW0⟩ : ∃ W0, (((w.alloc (.cells #[.int .i64 kd, .int .i64 f, .int .i64 me, .int .u64 s, .int .i64 fo, .slice (some ⟨g, 0, none⟩) ln c] 61)).alloc (.cells #[.slice none 0 0] 58)).alloc (.cells #[.int .i64 0] 31)).alloc (.cells #[.nilFunc, .func (.func 58) #[] #[], .func (.func 59) #[] #[], .func (.func 60) #[] #[]] 142) = W0 := ⟨_, rfl⟩
  obtain ⟨⟨hra, hrb⟩, ⟨hrc, hrd⟩, hm0, hs0⟩ := rows4 w _ _ _ _ _ _ _ _ W0 hW0
  have HR := Lib.hid (And.intro hra (And.intro hrb (And.intro hrc (And.intro hrd (And.intro hm0 hs0)))))
  have HDL := Lib.hid hdl
  clear hra hrb hrc hrd hm0 hs0
  rcases hkd with ⟨rfl, rfl⟩ | ⟨rfl, rfl⟩
  all_goals
    go_enter_defers Tryz.func15, Tryz.ntmps15
    go_upto_region 2 with fail
    try rw [hW0]
    clear hW0 c0 c2 c9 hdl
    obtain ⟨hra, hrb, hrc, hrd, hm0, hs0⟩ := HR.out
    obtain ⟨c0, c2, c9⟩ := hCD.out
    replace c0 := hm0.at c0 (by simp)
    replace c2 := hm0.at c2 (by simp)
    replace c9 := hm0.at c9 (by simp)
    obtain ⟨B, hB⟩ : ∃ B, w.heap.size = B := ⟨_, rfl⟩
    rw [hB] at hra hrb hrc hrd ⊢
    have HB := Lib.hid hB
    have HRS := Lib.hid (And.intro hra (And.intro hrb (And.intro hrc (And.intro hrd hm0))))
    have HC := Lib.hid (And.intro c0 (And.intro c2 c9))
    have x0 := hra.cell 0 _ rfl
    have x1 := hra.cell 1 _ rfl
    have x2 := hra.cell 2 _ rfl
    have x4 := hra.cell 4 _ rfl
    clear hra hrb hrc hrd hm0 hs0 hB
    go_wp2_with fail
    go_cut [20] from 20 to 48 (fun s20 wx => s20 = .bool false ∧ Mod [] W0 wx)
    case first =>
      -- <slow>
      go_quiet (first | (go_at_call 61; refine Calls.quiet_of_same ((HN.out _).mono (fun _ _ h => ⟨h.1, h.2.symm⟩))) | (go_at_call 61; refine Calls.quiet_of_same ((HO.out _).mono (fun _ _ h => ⟨h.1, h.2.symm⟩))))
      go_wp2_with fail
      go_meet
      case rel => exact ⟨rfl, (Mod.refl [] W0).drewN _⟩
      -- </slow>
    case rest =>
      obtain ⟨rfl, hMc⟩ := hcut
      have HMc := Lib.hid hMc
      clear c0 c2 c9 x0 x1 x2 x4
      have x0 := (HRS.out.1.same hMc).cell 0 _ rfl
      have x1 := (HRS.out.1.same hMc).cell 1 _ rfl
      have c0 := hMc.at HC.out.1 (by simp)
      have bl : B < wc.heap.size := block_lt_of_cell x1
      have bl1 : B < wc.heap.size + 1 := by omega
      have bn : ¬ B = wc.heap.size := by omega
      have dl : d < wc.heap.size := block_lt_of_cell c0
      have dl1 : d < wc.heap.size + 1 := by omega
      have dn : ¬ d = wc.heap.size := by omega
      clear hMc
      go_wp2_with fail
      go_cut [9, 10] from 59 to 68 (fun s9 s10 wx => s10 = .bool true ∧ Mod [] W0 wx)
      case first =>
        -- <slow>
        refine wp_then_only ?_
        go_region_with (go_at_call 49; refine (HGE.out _ (by repeat (first | exact HR.out.2.2.2.2.1.trans HMc.out | refine Mod.drew ?_ | refine Mod.alloc ?_ _))).mono ?_; rintro e w6 ⟨rfl, hM6⟩; have HM6 := Lib.hid (show Mod [] W0 w6 from HMc.out.trans (Mod.trans (by repeat (first | exact Mod.refl [] _ | refine Mod.drew ?_ | refine Mod.alloc ?_ _)) hM6)); have hc6 := HM6.out.at HC.out.1 (by simp); have hd6 := block_lt_of_cell hc6; have hn6 := Nat.ne_of_lt hd6; have xb6 := (HRS.out.1.same HM6.out).cell 1 _ rfl; have hb6 := block_lt_of_cell xb6; have hbn6 := Nat.ne_of_lt hb6; (try (have r6 := row_keep hM6 (heap_new_drew _ (.cells #[.int .i64 0, .int .u64 0, .int .i64 0] 55)); have r6z := zeros_of r6; have HR6 := Lib.hid r6z; unfold Zeros at r6z)); clear hM6)
        all_goals
          go_wp2_with fail
          go_meet
          case rel => first | exact ⟨rfl, HM6.out.alloc _⟩ | exact ⟨rfl, ((HM6.out.setCell (.inr HMc.out.size) _).setCell (.inr HMc.out.size) _).setCell (.inr HMc.out.size) _⟩
        -- </slow>
      case rest =>
        obtain ⟨rfl, hMd⟩ := hcut
        have HMd := Lib.hid hMd
        clear x0 x1 c0 HMc bl bl1 bn dl dl1 dn
        have x5 := (HRS.out.1.same hMd).cell 5 _ rfl
        clear hMd
        go_wp2_with fail
        go_loopw [82] (fun u wr => ∃ k : Nat, u = .int .i64 k ∧ k ≤ ln ∧ Mod [] W0 wr) (fun u _ => ln - (intOf u).toNat)
        case atStart => exact ⟨0, rfl, Nat.zero_le _, HMd.out⟩
        case round =>
          obtain ⟨k, rfl, hk, hM⟩ := hrel
          have HM := Lib.hid hM
          clear hM
          by_cases hlt : k < ln
          · have hlt' : (k : Int) < ln := by omega
            obtain ⟨q, hq⟩ : ∃ q, L[k]? = some q := ⟨_, List.getElem?_eq_getElem (by have := HL.out.2.1; omega)⟩
            have hqn := HL.out.1 q (List.mem_of_getElem? hq)
            have HQN := Lib.hid hqn
            obtain ⟨a0, a1, a2⟩ := uflat_at (L.map calmU) k (calmU q) (by rw [List.getElem?_map, hq]; rfl)
            have hMw := HR.out.2.2.2.2.1.trans HM.out
            have y0 : wr.cell? ⟨g, k * 3, none⟩ = some (.int .i64 q) := hMw.at (HNW.out _ _ a0) (by simp)
            have y1 : wr.cell? ⟨g, k * 3 + 1, none⟩ = some (.int .u64 0) := hMw.at (HNW.out _ _ a1) (by simp)
            have y2 : wr.cell? ⟨g, k * 3 + 2, none⟩ = some (.int .i64 0) := hMw.at (HNW.out _ _ a2) (by simp)
            have x1 := (HRS.out.1.same HM.out).cell 1 _ rfl
            have hB1 : B < wr.heap.size := block_lt_of_cell x1
            have hB2 : ¬ B = wr.heap.size := by omega
            have HMW := Lib.hid hMw
            clear a0 a1 a2 hq hqn hMw
            go_wp2_with fail
            refine (HTK.out q HQN.out _ (HMW.out.alloc _)).mono ?_
            rintro e w7 ⟨rfl, hM7⟩
            have HM7 := Lib.hid ((HM.out.alloc _).trans hM7)
            clear hM7 y0 y1 y2 x1
            go_wp2_with fail
            go_roundw
            case rel => exact ⟨k + 1, by go_num, by omega, HM7.out⟩
            case measure => simp [intOf]; omega
          · have hlt' : ¬ (k : Int) < ln := by omega
            clear hlt
            go_wp2_with fail
            have HMW := Lib.hid (HR.out.2.2.2.2.1.trans HM.out)
            have HSZ := Lib.hid (show w.heap.size + 1 + 1 + 1 + 1 ≤ wr.heap.size by have := HR.out.2.2.2.2.2; have := HM.out.size; omega)
            have hr0 := HRS.out.1.same HM.out
            have hrk := HRS.out.2.2.2.1.same HM.out
            have x0 := hr0.cell 0 _ rfl
            have x1 := hr0.cell 1 _ rfl
            have x2 := hr0.cell 2 _ rfl
            have x3 := hr0.cell 3 _ rfl
            have x4 := hr0.cell 4 _ rfl
            have x5 := hr0.cell 5 _ rfl
            have k1 := hrk.cell 1 _ rfl
            have k2 := hrk.cell 2 _ rfl
            clear hr0 hrk
            go_cut [] from 97 to 103 (fun wx => ∃ w1 w2 a m c, Mod [] w w1 ∧ w.heap.size + 1 + 1 + 1 + 1 ≤ w1.heap.size ∧ Q (.slice a m c) w1 w2 ∧ KRow wx (B + 1) [.slice a m c] ∧ KRow wx (B + 1 + 1) [.int .i64 0] ∧ Mod [B + 1, B + 1 + 1] w2 wx)
            case first =>
              -- <slow>
              refine wp_then_only ?_
              go_region_with ((first | go_at_call 58 | go_at_call 59); refine (HCALL.out _ HMW.out.drew HSZ.out).mono ?_; rintro e w5 ⟨a5, m5, c5, rfl, hQ5⟩; have hh := hear_rows HRS.out.2.1 HRS.out.2.2.1 HM.out.drew hQ5 HL.out.2.2.2 HB.out; have z6 := hh.1.cell 0 _ rfl; have f6 := hh.1.free 0; have z7 := hh.2.cell 0 _ rfl; have f7 := hh.2.free 0; have HH := Lib.hid hh; have HQ5 := Lib.hid hQ5; clear hQ5 hh)
              all_goals
                go_wp2_with fail
                go_meet
                case rel => exact ⟨_, w5, a5, m5, c5, HMW.out.drew, HSZ.out, HQ5.out, hear_set1 HH.out.1 HH.out.2, hear_set2 HH.out.1 HH.out.2, hear_setm _ _⟩
              -- </slow>
            case rest =>
              obtain ⟨w1, w2, a, m, c', h1, h2, h3, h4, h5, h6⟩ := hcut
              have HF := Lib.hid (And.intro h1 (And.intro h2 (And.intro h3 h6)))
              have z1 := h4.cell 0 _ rfl
              have z2 := h5.cell 0 _ rfl
              clear h1 h2 h3 h4 h5 h6 x0 x1 x2 x3 x4 x5 k1 k2
              go_wp2
              refine leaves_cons (f := 62) (args := #[.pointer (some ⟨B + 1, 0, none⟩), .pointer (some ⟨B + 1 + 1, 0, none⟩)]) (by simp) (by simp [go_sem]) ?_
              refine (hear_idle _ _ _).mono ?_
              rintro e u' w'' ⟨rfl, rfl, rfl⟩
              have hfin : HearPost Q w (.returned (.tuple #[.slice a m c', .int .i64 0])) w'' := by
                obtain ⟨h1, h2, h3, h6⟩ := HF.out
                refine ⟨_, w1, w2, rfl, h1, h2, h3, ?_⟩
                rw [HB.out]
                exact h6
              simp [Leaves, settle, results, Tryz.results15, go_sem, z1, z2]
              exact hfin

end Go.Proofs.YtaaaiggbnkeblaaGreatDoor
