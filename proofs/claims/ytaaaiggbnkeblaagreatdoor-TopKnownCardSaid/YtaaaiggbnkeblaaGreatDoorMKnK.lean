/-
  TopKnown: take at an update of a node that is not known yet.
-/
import Derived.Test.YtaaaiggbnkeblaaGreatDoorMKnH
namespace Go.Proofs.YtaaaiggbnkeblaaGreatDoor
set_option linter.unusedSimpArgs false
set_option linter.unusedVariables false
open Go.RowKit

/-- One cell fact each, at the detector's block by its name. -/
theorem KS.At.at3 {K : KS} {w : World} {G : List Nat} {n d b : Nat} (h : K.At w G n) (hd : K.d = d) (hb : K.b = b) : w.cell? ⟨d, 3, none⟩ = some (.map (some b)) := by rw [← hd, ← hb]; exact h.rum
theorem KS.At.at4 {K : KS} {w : World} {G : List Nat} {n d : Nat} (h : K.At w G n) (hd : K.d = d) : w.cell? ⟨d, 4, none⟩ = some (.map none) := by rw [← hd]; exact h.dou
theorem KS.At.at1 {K : KS} {w : World} {G : List Nat} {n d : Nat} (h : K.At w G n) (hd : K.d = d) : RoundO G w d K.L := by rw [← hd]; exact h.left
theorem UpK.mods {S : List Nat} {a b : World} {g k : Nat} (h : UpK a g k) (m : Mod S a b) (hg : g ∉ S) : UpK b g k :=
  have hl : g < a.heap.size := block_lt_of_cell h.1.1
  ⟨⟨m.at h.1.1 hg, m.at h.1.2.1 hg, m.at h.1.2.2 hg⟩, (m.frozen hl hg).trans h.2.1, (m.frozen hl hg).trans h.2.2.1, (m.frozen hl hg).trans h.2.2.2⟩

/-- Where take stands: the detector, the update's block, the lots, what has turned. -/
def TakeSt (K0 K : KS) (G : List Nat) (n dl gl B k : Nat) (ls : List Int) (W0 w : World) : Prop := K.At w G n ∧ UpK w B k ∧ LotsAt w dl gl ls ∧ Mod [K0.r, K0.b, dl, K0.d] W0 w
theorem TakeSt.next {K0 K K' : KS} {G S : List Nat} {n dl gl B k : Nat} {ls : List Int} {W0 w w' : World} (h : TakeSt K0 K G n dl gl B k ls W0 w) (hm : Mod S w w') (hA : K'.At w' G n) (hB : B ∉ S) (hd : dl ∉ S) (hg : gl ∉ S) (hS : ∀ s ∈ S, s ∈ [K0.r, K0.b, dl, K0.d]) : TakeSt K0 K' G n dl gl B k ls W0 w' :=
  ⟨hA, h.2.1.mods hm hB, h.2.2.1.mod hm hd hg, h.2.2.2.trans (hm.mono (fun q _ hq => hS q hq))⟩
theorem TakeSt.same {K0 K : KS} {G : List Nat} {n dl gl B k : Nat} {ls : List Int} {W0 w w' : World} (h : TakeSt K0 K G n dl gl B k ls W0 w) (hm : Mod [] w w') : TakeSt K0 K G n dl gl B k ls W0 w' :=
  h.next hm (h.1.same hm) (by simp) (by simp) (by simp) (by simp)

def KNew (K : KS) (k : Nat) (G : List Nat) (n dl : Nat) (w w' : World) : Prop := ∃ L', L'.length ≤ K.L.length + 1 ∧ ((K.learn k).lefts L').At w' G n ∧ Mod [K.r, K.b, dl, K.d] w w'

set_option maxRecDepth 100000 in
set_option maxHeartbeats 8000000 in
theorem ktake_new {K : KS} {w : World} {G : List Nat} {n k dl gl : Nat} {ls : List Int} (x : Value) (h : K.At w G n) (ht : Tab w) (hn6 : n ≤ 6) (hkn0 : k < n) (hkn : ¬ K.knows k) (hll : K.L.length ≤ 99) (hL : LotsAt w dl gl ls) (hdG : dl ∈ G) (hap : (K.d ≠ dl ∧ K.r ≠ dl ∧ K.b ≠ dl) ∧ K.d ≠ gl ∧ K.r ≠ gl ∧ K.b ≠ gl) :
    Calls Tryz.prog 48 #[.pointer (some ⟨K.d, 0, none⟩), .agg #[.int .i64 k, .int .u64 0, .int .i64 0], x, .pointer (some ⟨dl, 0, none⟩)] w fun e w' => e = .returned (.int .i64 0) ∧ KNew K k G n dl w w' := by
  have hk : k < 6 := by omega
  have HX0 := Lib.hid (fun g hg => h.lo g hg)
  have HX := Lib.hid (And.intro hn6 (And.intro hkn0 (And.intro hll (And.intro hL (And.intro hdG hap)))))
  clear hn6 hkn0 hll hL hdG hap
  have H := Lib.hid h
  have HT := Lib.hid ht
  have HK := Lib.hid (And.intro hk hkn)
  have c0 := h.roll
  have hdl := h.lt
  clear h ht hk hkn
  obtain ⟨d, hd⟩ : ∃ d, K.d = d := ⟨_, rfl⟩
  obtain ⟨r, hr⟩ : ∃ r, K.r = r := ⟨_, rfl⟩
  have HE := Lib.hid (And.intro hd hr)
  rw [hd] at hdl ⊢
  rw [hd, hr] at c0
  have hne : ¬ d = w.heap.size := by omega
  clear hd hr
  go_enter Tryz.func48, Tryz.ntmps48
  go_wp2_with fail
  have HMw := Lib.hid ((Mod.refl [] w).alloc (.cells #[.int .i64 k, .int .u64 0, .int .i64 0] 55))
  have HU := Lib.hid (heap_new w (.cells #[.int .i64 k, .int .u64 0, .int .i64 0] 55))
  have hdw : d < w.heap.size := hdl
  generalize hB : w.heap.size = B at HU HX0 ⊢
  generalize w.alloc (.cells #[.int .i64 k, .int .u64 0, .int .i64 0] 55) = W0 at HMw HU ⊢
  replace H := Lib.hid (H.out.same HMw.out)
  replace HT := Lib.hid (HT.out.mod HMw.out (by simp))
  have c1 := H.out.roll
  rw [HE.out.1, HE.out.2] at c1
  have HC := Lib.hid c1
  have hmine := fun (w' : World) (hm : Mod [] W0 w') => kmine (H.out.same hm)
  have hlive := fun (w' : World) (hm : Mod [] W0 w') => clive_is ((H.out.same hm).calm) (HT.out.mod hm (by simp))
  have hget := fun (w' : World) (hm : Mod [] W0 w') => kgetn (H.out.same hm) HK.out.1 HK.out.2
  have hhear := fun (w' : World) (hm : Mod [] W0 w') => khear_newA (H.out.same hm) HK.out.1 HK.out.2
  rw [HE.out.2] at hmine hlive hget hhear
  have HMI := Lib.hid hmine
  have HLI := Lib.hid hlive
  have HGE := Lib.hid hget
  have HHE := Lib.hid hhear
  clear c0 hdl hne hmine hlive hget hhear
  have HM0 := Lib.hid (Mod.refl [] W0)
  have hd0 : d < W0.heap.size := block_lt_of_cell c1
  have hd1 : d < W0.heap.size + 1 := by omega
  have hne0 : ¬ d = W0.heap.size := by omega
  go_cut [9] (fun s9 wx => s9 = .int .u64 K.has ∧ Mod [] W0 wx)
  case first =>
    -- <slow>
    go_region_with (first | (go_at_call 19; refine (HLI.out _ (by repeat (first | exact HM6.out | exact HM5.out | exact HM0.out | refine Mod.drew ?_ | refine Mod.alloc ?_ _))).mono ?_; rintro e w5 ⟨rfl, hM5⟩; have HM5 := Lib.hid (show Mod [] W0 w5 from Mod.trans (by repeat (first | exact HM6.out | exact HM5.out | exact HM0.out | refine Mod.drew ?_ | refine Mod.alloc ?_ _)) hM5); have hc5 := HM5.out.at HC.out (by simp); have hd5 := block_lt_of_cell hc5; have hn5 := Nat.ne_of_lt hd5; (try (have r5 := row_keep hM5 (heap_new_drew W0 (.cells #[.int .i64 0, .int .u64 0, .int .i64 0] 55)); have r5z := zeros_of r5; unfold Zeros at r5z)); clear hM5) | (go_at_call 47; refine (HMI.out _ (by repeat (first | exact HM6.out | exact HM5.out | exact HM0.out | refine Mod.drew ?_ | refine Mod.alloc ?_ _))).mono ?_; rintro e w6 ⟨rfl, hM6⟩; have HM6 := Lib.hid (show Mod [] W0 w6 from Mod.trans (by repeat (first | exact HM6.out | exact HM5.out | exact HM0.out | refine Mod.drew ?_ | refine Mod.alloc ?_ _)) hM6); have hc6 := HM6.out.at HC.out (by simp); have hd6 := block_lt_of_cell hc6; have hn6 := Nat.ne_of_lt hd6; (try (have r6 := row_keep hM6 r5; have r6z := zeros_of r6; unfold Zeros at r6z)); (try (have q6 := row_keep hM6 (heap_new w5 (.cells #[.int .i64 0, .int .u64 0, .int .i64 0] 55)); have q6z := zeros_of q6; unfold Zeros at q6z)); clear hM6))
    all_goals
      go_wp2_with fail
      go_meet
      case rel => first | exact ⟨rfl, HM6.out.alloc _⟩ | exact ⟨rfl, ((HM6.out.setCell (.inr HM5.out.size) _).setCell (.inr HM5.out.size) _).setCell (.inr HM5.out.size) _⟩ | exact ⟨rfl, ((HM6.out.setCell (.inr HM0.out.size) _).setCell (.inr HM0.out.size) _).setCell (.inr HM0.out.size) _⟩
    -- </slow>
  case rest =>
    obtain ⟨rfl, hcut⟩ := hcut
    have HMc := Lib.hid (show Mod [] W0 wc from hcut)
    have hBl : B < W0.heap.size := (Array.getElem?_eq_some_iff.1 HU.out).1
    have HUc := Lib.hid (row_keep HMc.out HU.out)
    have uc := upK_of HUc.out
    unfold UpK at uc
    have cc := HMc.out.at HC.out (by simp)
    have bc0 : B < wc.heap.size := (Array.getElem?_eq_some_iff.1 HUc.out).1
    have bc1 : B < wc.heap.size + 1 := by omega
    have bcn : ¬ B = wc.heap.size := by omega
    have dc0 : d < wc.heap.size := block_lt_of_cell cc
    have dc1 : d < wc.heap.size + 1 := by omega
    have dcn : ¬ d = wc.heap.size := by omega
    clear hcut
    go_wp2_with fail
    go_cut [11, 12] (fun s11 s12 wx => s12 = .bool false ∧ ∃ g, s11 = .pointer (some ⟨g, 0, none⟩) ∧ UpK wx g 0 ∧ Mod [] W0 wx)
    case first =>
      -- <slow>
      go_region_with (go_at_call 49; refine (HGE.out _ (by repeat (first | exact HMc.out | refine Mod.drew ?_ | refine Mod.alloc ?_ _))).mono ?_; rintro e w6 ⟨rfl, hM6⟩; have HM6 := Lib.hid (show Mod [] W0 w6 from Mod.trans (by repeat (first | exact HMc.out | refine Mod.drew ?_ | refine Mod.alloc ?_ _)) hM6); have hc6 := HM6.out.at HC.out (by simp); have hd6 := block_lt_of_cell hc6; have hn6 := Nat.ne_of_lt hd6; (try (have r6 := row_keep hM6 (heap_new_drew wc (.cells #[.int .i64 0, .int .u64 0, .int .i64 0] 55)); have r6z := zeros_of r6; have HR6 := Lib.hid r6z; unfold Zeros at r6z)); clear hM6)
      all_goals
        go_wp2_with fail
        go_meet
        case rel => first | exact ⟨rfl, _, rfl, upK_of (heap_new _ _), HM6.out.alloc _⟩ | exact ⟨rfl, _, rfl, upK_set 0 HR6.out, ((HM6.out.setCell (.inr HMc.out.size) _).setCell (.inr HMc.out.size) _).setCell (.inr HMc.out.size) _⟩
      -- </slow>
    case rest =>
      obtain ⟨rfl, g, rfl, hz, hMd⟩ := hcut
      rename_i wo _ _
      clear cc bc0 bc1 bcn dc0 dc1 dcn uc HUc
      rename_i wd
      have HMd := Lib.hid hMd
      have HUc := Lib.hid (row_keep HMd.out HU.out)
      have uc := upK_of HUc.out
      have HZ := Lib.hid hz
      unfold UpK at uc hz
      have cc := HMd.out.at HC.out (by simp)
      clear hMd
      have HLD := Lib.hid (HX.out.2.2.2.1.mod (HMw.out.trans HMd.out) (by simp) (by simp))
      have HB := Lib.hid (fun g hg => HX0.out g hg)
      go_wp2_with fail
      go_cut [13, 14] (fun s13 s14 wx => s13 = .bool true ∧ s14 = .int .i64 0 ∧ TakeSt K (K.learn k) G n dl gl B k ls W0 wx)
      case first =>
        -- <slow>
        go_region_with (go_at_call 97; refine (HHE.out _ (by repeat (first | exact HMd.out | refine Mod.drew ?_ | refine Mod.alloc ?_ _))).mono ?_; rintro e w7 ⟨rfl, hA7, hM7⟩; have HA7 := Lib.hid hA7; have HM7 := Lib.hid hM7; clear hA7 hM7)
        all_goals
          go_wp2_with fail
          go_meet
          case rel =>
            refine ⟨rfl, rfl, HA7.out, (upK_of HUc.out).mods ((Mod.refl [r] _).drew.trans HM7.out) ?_, HLD.out.mod ((Mod.refl [r] _).drew.trans HM7.out) ?_ ?_, ?_⟩
            · have := HB.out r (HE.out.2 ▸ H.out.inG.2.1)
              simp; omega
            · rw [← HE.out.2]; simpa using HX.out.2.2.2.2.2.1.2.1.symm
            · rw [← HE.out.2]; simpa using HX.out.2.2.2.2.2.2.2.1.symm
            · exact ((HMd.out.drew.wide (T := [r]) (by simp)).trans HM7.out).mono (fun q _ hq => by simp at hq; simp [hq, HE.out.2])
        -- </slow>
      case rest =>
        obtain ⟨rfl, rfl, hst⟩ := hcut
        clear uc hz cc HUc HZ HLD
        have HST := Lib.hid hst
        have hz3 := hst.2.1
        have HUC := Lib.hid hz3
        have cq := hst.1.at3 HE.out.1 rfl
        unfold UpK at hz3
        clear hst
        go_wp2_with fail
        go_cut [] (fun wx => TakeSt K (K.learn k) G n dl gl B k ls W0 wx)
        case first =>
          -- <slow>
          go_region_with (go_at_call 46; refine (qput_is d 3 K.b n k HX.out.1 HX.out.2.1 _ ((HST.out.same (Mod.refl [] _).drew).1.at3 HE.out.1 rfl) (HST.out.same (Mod.refl [] _).drew).1.q (HE.out.1 ▸ H.out.ne.2.1)).mono ?_; rintro e w8 ⟨x8, rfl, hq8, hM8⟩; have HM8 := Lib.hid (And.intro hq8 hM8); clear hq8 hM8)
          all_goals
            go_wp2_with fail
            go_meet
            case rel =>
              refine (HST.out.same (Mod.refl [] _).drew).next HM8.out.2 ((HST.out.same (Mod.refl [] _).drew).1.rumored HM8.out.2 HM8.out.1) ?_ ?_ ?_ ?_
              · have := HB.out K.b H.out.inG.2.2
                simp; omega
              · simpa using HX.out.2.2.2.2.2.1.2.2.symm
              · simpa using HX.out.2.2.2.2.2.2.2.2.symm
              · simp
          -- </slow>
        case rest =>
          clear HST HUC hz3 cq
          have HST := Lib.hid hcut
          have hz3 := hcut.2.1
          have cq := hcut.1.at4 HE.out.1
          unfold UpK at hz3
          clear hcut
          go_wp2_with fail
          go_cut [] (fun wx => TakeSt K (K.learn k) G n dl gl B k ls W0 wx)
          case first =>
            -- <slow>
            go_region_with (go_at_call 99; refine (ddrop_nil d 4 k _ ((HST.out.same (Mod.refl [] _).drew).1.at4 HE.out.1)).mono ?_; rintro e w9 ⟨rfl, hM9⟩; have HM9 := Lib.hid hM9; clear hM9)
            all_goals
              go_wp2_with fail
              go_meet
              case rel => exact (HST.out.same (Mod.refl [] _).drew).same HM9.out
            -- </slow>
          case rest =>
            clear HST hz3 cq
            have HST := Lib.hid hcut
            have hz3 := hcut.2.1
            unfold UpK at hz3
            clear hcut
            go_wp2_with fail
            refine (has_is K.has k false (by have := HK.out.1; omega) (by have := HK.out.2; unfold KS.knows at this; simpa using this) _).mono ?_
            rintro e w10 ⟨rfl, rfl⟩
            go_wp2_with fail
            -- <slow>
            go_region_with (go_at_call 100; refine (join_any1 G d dl gl k K.L ls _ ((HST.out.same (Mod.refl [] _).drew).1.at1 HE.out.1) (HST.out.same (Mod.refl [] _).drew).2.2.1 (by have := HX.out.2.2.1; omega) (HE.out.1 ▸ H.out.inG.1) HX.out.2.2.2.2.1 (HST.out.same (Mod.refl [] _).drew).1.lo (HE.out.1 ▸ HX.out.2.2.2.2.2.1.1) (HE.out.1 ▸ HX.out.2.2.2.2.2.2.1)).mono ?_; rintro e w11 ⟨rfl, hR11, hL11, hM11, hK11⟩; have H11 := Lib.hid (And.intro hR11 (And.intro hM11 hK11)); clear hR11 hL11 hM11 hK11)
            all_goals
              go_wp2
              go_ret
              obtain ⟨hR, hM, hK⟩ := H11.out
              have hlen := joinL_length K.L k ls
              have h99 := HX.out.2.2.1
              rw [← HE.out.1] at hR hM hK
              exact ⟨rfl, _, hlen, (HST.out.same (Mod.refl [] _).drew).1.rounded hR hM hK HX.out.2.2.2.2.2.1.2.1 HX.out.2.2.2.2.2.1.2.2 (by omega), (HMw.out.wide (by simp)).trans ((HST.out.same (Mod.refl [] _).drew).2.2.2.trans (hM.mono (fun q _ hq => by simp at hq; rcases hq with h | h <;> simp [h])))⟩
            -- </slow>

end Go.Proofs.YtaaaiggbnkeblaaGreatDoor
