/-
  The walk of ballot.Pick at promises of nothing; appends of such.
  The walk of a turn's Push.
  A turn that has just begun; the store of its wish.
  The walk of a turn's Begin.
-/
import Derived.Test.YtaaaiggbnkeblaaGreatDoorMChoI
import Derived.Deep.DeepCutAuto
import Derived.Test.YtaaaiggbnkeblaaGreatDoorMChoL
import Derived.Test.YtaaaiggbnkeblaaGreatDoorMTopF
import Derived.Deep.MidRow
namespace Go.Proofs.YtaaaiggbnkeblaaGreatDoor
set_option linter.unusedSimpArgs false
set_option linter.unusedVariables false
open Go.RowKit

theorem pick1_zero (p : Nat) (w : World) (h : w.cell? ⟨p, 0, none⟩ = some (.int .u64 0)) : Calls Tryz.prog 195 #[.agg #[.int .u64 0, .int .u64 0, .int .u64 0], .pointer (some ⟨p, 0, none⟩)] w fun e w' => e = .returned (.bool false) ∧ Mod [] w w' := by
  have hm := (Mod.refl [] w).alloc (.cells #[.int .u64 0, .int .u64 0, .int .u64 0] 85)
  have h0 := hm.at h (by simp)
  have HM := Lib.hid hm
  have z0 := cell_in (heap_new w (.cells #[.int .u64 0, .int .u64 0, .int .u64 0] 85)) (show (#[Value.int .u64 0, .int .u64 0, .int .u64 0] : Array Value)[0]? = some (.int .u64 0) from rfl)
  clear hm h
  go_enter Tryz.func195, Tryz.ntmps195
  go_wp2_with fail
  go_ret
  exact ⟨rfl, HM.out⟩

theorem Tryz.size_choiceQ : (Tryz.prog.info? 45).map (·.size) = some 2 := by kernel_rfl
set_option maxRecDepth 100000 in
set_option maxHeartbeats 8000000 in
theorem pick_zero (g cap : Nat) (w : World) (h : ∀ j, j < 9 → w.cell? ⟨g, j, none⟩ = some (.int .u64 0)) :
    Calls Tryz.prog 131 #[.slice (some ⟨g, 0, none⟩) 3 cap] w fun e w' => e = .returned (.tuple #[.agg #[.int .u64 0, .int .u64 0], .bool false]) ∧ Mod [] w w' := by
  have hm0 := (Mod.refl [] w).alloc (.cells #[.int .u64 0, .int .u64 0] 45)
  have hm := hm0.alloc (.cells #[.int .u64 0, .int .u64 0, .int .u64 0] 85)
  have hr0 := heap_new w (.cells #[.int .u64 0, .int .u64 0] 45)
  have hr1 : ((w.alloc (.cells #[.int .u64 0, .int .u64 0] 45)).alloc (.cells #[.int .u64 0, .int .u64 0, .int .u64 0] 85)).heap[w.heap.size + 1]? = some (.cells #[.int .u64 0, .int .u64 0, .int .u64 0] 85 (0, 0)) := by
    have := heap_new (w.alloc (.cells #[.int .u64 0, .int .u64 0] 45)) (.cells #[.int .u64 0, .int .u64 0, .int .u64 0] 85)
    simpa using this
  have hr0' := row_mod ((Mod.refl [] (w.alloc (.cells #[.int .u64 0, .int .u64 0] 45))).alloc (.cells #[.int .u64 0, .int .u64 0, .int .u64 0] 85)) hr0 (by simp)
  have HM := Lib.hid hm
  have HG := Lib.hid (show ∀ j, j < 9 → ((w.alloc (.cells #[.int .u64 0, .int .u64 0] 45)).alloc (.cells #[.int .u64 0, .int .u64 0, .int .u64 0] 85)).cell? ⟨g, j, none⟩ = some (.int .u64 0) from fun j hj => hm.at (h j hj) (by simp))
  have HR := Lib.hid (And.intro hr0' hr1)
  clear h hm hm0 hr0 hr0' hr1
  go_enter Tryz.func131, Tryz.ntmps131
  go_wp2_with fail
  generalize (w.alloc (.cells #[.int .u64 0, .int .u64 0] 45)).alloc (.cells #[.int .u64 0, .int .u64 0, .int .u64 0] 85) = W at HM HG HR ⊢
  obtain ⟨b, hb⟩ : ∃ b, w.heap.size = b := ⟨_, rfl⟩
  rw [hb] at HR ⊢
  have HBE := Lib.hid hb
  clear hb
  go_loopw [11] (fun i wr => ∃ k : Nat, i = .int .i64 k ∧ k ≤ 3 ∧ Mod [] W wr) (fun i _ => 3 - (intOf i).toNat)
  case atStart => exact ⟨0, rfl, by decide, Mod.refl _ _⟩
  case round =>
    obtain ⟨k, rfl, hk, hM⟩ := hrel
    have h4 : k = 0 ∨ k = 1 ∨ k = 2 ∨ k = 3 := by omega
    clear hk
    rcases h4 with rfl | rfl | rfl | rfl
    · have e0 := hM.at (HG.out 0 (by decide)) (by simp)
      have e1 := hM.at (HG.out 1 (by decide)) (by simp)
      have e2 := hM.at (HG.out 2 (by decide)) (by simp)
      have hb0 : wr.cell? ⟨b + 1, 0, none⟩ = some (.int .u64 0) := hM.at (cell_in HR.out.2 rfl) (by simp)
      have HB := Lib.hid (((Mod.refl [] wr).alloc (.cells #[.int .u64 0, .int .u64 0, .int .u64 0] 85)).at hb0 (by simp))
      have HMR := Lib.hid (hM.alloc (.cells #[.int .u64 0, .int .u64 0, .int .u64 0] 85))
      clear hM hb0
      go_wp2_with fail
      refine (pick1_zero (b + 1) _ HB.out).mono ?_
      rintro _ w5 ⟨rfl, hM5⟩
      have HM5 := Lib.hid (HMR.out.trans hM5)
      clear hM5
      go_wp2_with fail
      exact ⟨⟨1, rfl, by decide, HM5.out⟩, by decide⟩
    · have e0 := hM.at (HG.out 3 (by decide)) (by simp)
      have e1 := hM.at (HG.out 4 (by decide)) (by simp)
      have e2 := hM.at (HG.out 5 (by decide)) (by simp)
      have hb0 : wr.cell? ⟨b + 1, 0, none⟩ = some (.int .u64 0) := hM.at (cell_in HR.out.2 rfl) (by simp)
      have HB := Lib.hid (((Mod.refl [] wr).alloc (.cells #[.int .u64 0, .int .u64 0, .int .u64 0] 85)).at hb0 (by simp))
      have HMR := Lib.hid (hM.alloc (.cells #[.int .u64 0, .int .u64 0, .int .u64 0] 85))
      clear hM hb0
      go_wp2_with fail
      refine (pick1_zero (b + 1) _ HB.out).mono ?_
      rintro _ w5 ⟨rfl, hM5⟩
      have HM5 := Lib.hid (HMR.out.trans hM5)
      clear hM5
      go_wp2_with fail
      exact ⟨⟨2, rfl, by decide, HM5.out⟩, by decide⟩
    · have e0 := hM.at (HG.out 6 (by decide)) (by simp)
      have e1 := hM.at (HG.out 7 (by decide)) (by simp)
      have e2 := hM.at (HG.out 8 (by decide)) (by simp)
      have hb0 : wr.cell? ⟨b + 1, 0, none⟩ = some (.int .u64 0) := hM.at (cell_in HR.out.2 rfl) (by simp)
      have HB := Lib.hid (((Mod.refl [] wr).alloc (.cells #[.int .u64 0, .int .u64 0, .int .u64 0] 85)).at hb0 (by simp))
      have HMR := Lib.hid (hM.alloc (.cells #[.int .u64 0, .int .u64 0, .int .u64 0] 85))
      clear hM hb0
      go_wp2_with fail
      refine (pick1_zero (b + 1) _ HB.out).mono ?_
      rintro _ w5 ⟨rfl, hM5⟩
      have HM5 := Lib.hid (HMR.out.trans hM5)
      clear hM5
      go_wp2_with fail
      exact ⟨⟨3, rfl, by decide, HM5.out⟩, by decide⟩
    · have b0 := row_mod hM HR.out.1 (by simp)
      have b1 := row_mod hM HR.out.2 (by simp)
      have x0 := cell_in b0 (show (#[Value.int .u64 0, .int .u64 0] : Array Value)[0]? = some (.int .u64 0) from rfl)
      have x1 := cell_in b0 (show (#[Value.int .u64 0, .int .u64 0] : Array Value)[1]? = some (.int .u64 0) from rfl)
      have f0 := free_in (j := 0) b0
      have f1 := free_in (j := 1) b0
      have y0 := cell_in b1 (show (#[Value.int .u64 0, .int .u64 0, .int .u64 0] : Array Value)[0]? = some (.int .u64 0) from rfl)
      have y1 := cell_in b1 (show (#[Value.int .u64 0, .int .u64 0, .int .u64 0] : Array Value)[1]? = some (.int .u64 0) from rfl)
      have y2 := cell_in b1 (show (#[Value.int .u64 0, .int .u64 0, .int .u64 0] : Array Value)[2]? = some (.int .u64 0) from rfl)
      have HB0 := Lib.hid b0
      have HMR := Lib.hid hM
      clear b0 b1 hM
      go_wp2_with fail
      go_region
      have hrow : (((wr.setCell ⟨b, 0, none⟩ (.int .u64 0)).setCell ⟨b, 1, none⟩ (.int .u64 0)).drew).heap[b]? = some (.cells #[.int .u64 0, .int .u64 0] 45 (0, 0)) := by
        simp [World.setCell, World.drew, World.drewN, Array.getElem?_modify, HB0.out]
      have hMe : Mod [b] wr (((wr.setCell ⟨b, 0, none⟩ (.int .u64 0)).setCell ⟨b, 1, none⟩ (.int .u64 0)).drew) := (((Mod.refl [b] wr).setCell (.inl (by simp)) _).setCell (.inl (by simp)) _).drew
      have hMF := (HM.out.trans HMR.out).step hMe (fun x hx => .inr (by simp at hx; have := HBE.out; omega))
      go_wp2_with fail
      refine bodyPost_ret (results_row_tmp rfl _ _ b 45 _ (0, 0) _ rfl hrow Tryz.underlying45 rfl Tryz.size_choiceQ) rfl ?_
      exact ⟨rfl, hMF⟩

/-- A row of k promises of nothing. -/
def ZRow (w : World) (B : Nat) (v : Value) (k : Nat) : Prop := w.ownsRow B 85 3 v k (List.replicate (3 * k) (.int .u64 0))
theorem infoPromise : ∃ i, Tryz.prog.info? 85 = some i ∧ i.zero = some (.agg #[.int .u64 0, .int .u64 0, .int .u64 0]) ∧ i.size = 3 ∧ i.bytes ≤ 1000 := by
  have h : (Tryz.prog.info? 85).map (fun i => (i.zero, i.size, decide (i.bytes ≤ 1000))) = some (some (.agg #[.int .u64 0, .int .u64 0, .int .u64 0]), 3, true) := by kernel_rfl
  cases hi : Tryz.prog.info? 85 with
  | none => rw [hi] at h; cases h
  | some i =>
    rw [hi] at h
    simp at h
    exact ⟨i, rfl, h.1, h.2.1, h.2.2⟩
theorem zrow_append (w : World) (B : Nat) (v : Value) (k g : Nat) (h : ZRow w B v k) (hk : k ≤ 10) (hg : w.heap[g]? = some (.cells #[.int .u64 0, .int .u64 0, .int .u64 0] 85 (0, 0))) (hB : B ≤ w.heap.size) :
    ∃ v' w', (Builtin.append_ #[241, 241] 241 #[v, .slice (some ⟨g, 0, none⟩) 1 1]).run Tryz.prog w = .ok v' w' ∧ ZRow w' B v' (k + 1) ∧ w.grownBy w' v.ownBlock := by
  obtain ⟨i, hi, hz, hs, hb⟩ := infoPromise
  have hby : (k + 1) * i.bytes ≤ 140737488355328 := by
    have := Nat.mul_le_mul (show k + 1 ≤ 11 by omega) hb
    omega
  have hnews : ∀ j u, ([.int .u64 0, .int .u64 0, .int .u64 0] : List Value)[j]? = some u → w.cell? ((⟨g, 0, none⟩ : Addr).add j) = some u := World.news_of_block hg
  obtain ⟨v', w', hr, h2, h3, _, _⟩ := run_append_own_at (P := Tryz.prog) w B 241 241 85 i _ 3 i.bytes Tryz.underlying241 hi hz hs rfl rfl (by decide) v k _ h ⟨g, 0, none⟩ 1 1 [.int .u64 0, .int .u64 0, .int .u64 0] rfl hnews (by simp [Value.oneCell']) (by unfold maxLen; omega) hby hB
  refine ⟨v', w', hr, ?_, h3⟩
  unfold ZRow
  have e : List.replicate (3 * (k + 1)) (Value.int .u64 0) = List.replicate (3 * k) (Value.int .u64 0) ++ [.int .u64 0, .int .u64 0, .int .u64 0] := by
    rw [show 3 * (k + 1) = 3 * k + 3 by omega, ← List.replicate_append_replicate]
    rfl
  rw [e]
  exact h2
theorem ZRow.nil (w : World) (B : Nat) : ZRow w B (.slice none 0 0) 0 := ⟨rfl, .inl ⟨rfl, rfl⟩⟩
theorem ZRow.mod {w w' : World} {B k : Nat} {v : Value} {S : List Nat} (h : ZRow w B v k) (hM : Mod S w w') (hs : ∀ x ∈ S, x < B) : ZRow w' B v k :=
  ownsRow_mod h hM (fun b hb hm => by have := (ownsRow_ge h b hb).1; have := hs b hm; omega)
theorem ZRow.cells {w : World} {B k : Nat} {v : Value} (h : ZRow w B v k) (hk : 0 < k) : ∃ g cap, v = .slice (some ⟨g, 0, none⟩) k cap ∧ ∀ j, j < 3 * k → w.cell? ⟨g, j, none⟩ = some (.int .u64 0) := by
  obtain ⟨g, cap, rfl, _, _⟩ := h.form hk
  refine ⟨g, cap, rfl, fun j hj => ownsRow_cells h j _ ?_⟩
  rw [List.getElem?_replicate, if_pos hj]

end Go.Proofs.YtaaaiggbnkeblaaGreatDoor

namespace Go.Proofs.YtaaaiggbnkeblaaGreatDoor
set_option linter.unusedSimpArgs false
set_option linter.unusedVariables false
open Go.RowKit

set_option maxRecDepth 100000 in
set_option maxHeartbeats 8000000 in
theorem push_is (t : Nat) (s s' : TS) (L : List Let) (M : Int) (hb : (s.bal == 0) = false) (hd : s.done = false) (ha : s.asked = false) (hh : s.heard = 7) (hlv : s.live = 7) (hM7 : bits .or .u64 7 s.joins = M)
    (HT : Gives1 t { s with asked := true, wm := M, wc := s.far } s' L 34 #[.pointer (some ⟨t, 0, none⟩), .agg #[.int .i64 6, .int .i64 0, .int .i64 0, .int .u64 0, .int .i64 0, .slice none 0 0, .int .u64 0, .int .u64 0, .int .u64 s.bal, .int .u64 0, .int .u64 0, .int .u64 M, .int .u64 s.far, .slice none 0 0, .slice none 0 0, .float .f64 0]]) :
    Gives t s s' L 0 83 #[.pointer (some ⟨t, 0, none⟩)] := by
  intro w h
  have k9 := h.1.k9
  have k211 := h.1.k211
  have k207 := h.1.k207
  have k13 := h.1.k13
  have k6 := h.1.k6
  rw [hd] at k211
  rw [ha] at k207
  rw [hh] at k13
  have HH := Lib.hid h
  have HHH := Lib.hid (And.intro hh (And.intro hlv hM7))
  have HS := Lib.hid HT
  have HMJ := Lib.hid (major_is 7 7 7 0 true (by decide) (by decide) (by decide) (by decide) (by decide))
  clear h HT hd ha hh hlv hM7
  go_enter Tryz.func83, Tryz.ntmps83
  go_wp2_with fail
  go_region_held3 (fun w' => w'.cell? ⟨t, 13, none⟩ = some (.int .u64 7) ∧ w'.cell? ⟨t, 6, none⟩ = some (.int .u64 7)) (exact ⟨k13, k6⟩) ((go_at_call 29; refine (HMJ.out _).mono ?_; rintro _ w5 ⟨rfl, rfl⟩))
  have HH2 := Lib.hid (HH.out.mod0 (Mod.refl [] w).drew)
  have HM2 := Lib.hid (Mod.refl [] w).drew
  clear HH k9 k211 k207 k13 k6
  generalize w.drew = w2 at HH2 HM2 ⊢
  have k13 := HH2.out.1.k13
  rw [HHH.out.1] at k13
  go_wp2_with fail
  refine (blist_is 7 [0, 1, 2] bits_seven (by decide) _ HH2.out.2.1).mono ?_
  rintro _ w4 ⟨v, rfl, hO, hM4⟩
  obtain ⟨a, cc, rfl, hrd, hnc, hlc, hcm, hge⟩ := hO.shape
  have h3 : ([0, 1, 2] : List Int).length = 3 := rfl
  rw [h3]
  obtain ⟨ad, rfl, _, hc⟩ := hrd (by simp)
  obtain ⟨g, rfl, hg⟩ := hge ad rfl
  have x0 := hc 0 0 rfl
  have x1 := hc 1 1 rfl
  have x2 := hc 2 2 rfl
  rw [add_lit, Nat.zero_add] at x0 x1 x2
  have HX := Lib.hid (And.intro x0 (And.intro x1 x2))
  have HH4 := Lib.hid (HH2.out.mod0 hM4)
  have HM4 := Lib.hid (HM2.out.trans hM4)
  clear hO hrd hnc hlc hcm hge hc hM4 h3 x0 x1 x2 k13 HH2 HM2
  go_wp2_with fail
  go_loopw [5, 49] (fun l i wr => ∃ k : Nat, i = .int .i64 k ∧ k ≤ 3 ∧ ZRow wr w4.heap.size l k ∧ TEnv wr t s ∧ Mod [] w4 wr) (fun _ i _ => 3 - (intOf i).toNat)
  case atStart => exact ⟨0, rfl, by decide, .nil _ _, HH4.out, Mod.refl _ _⟩
  case round =>
    obtain ⟨k, rfl, hk, hz, hT, hM⟩ := hrel
    have h4 : k = 0 ∨ k = 1 ∨ k = 2 ∨ k = 3 := by omega
    clear hk
    rcases h4 with rfl | rfl | rfl | rfl
    · have xk := hM.at HX.out.1 (by simp)
      have e0 := hT.1.cell 14 (by decide)
      have e1 := hT.1.cell 15 (by decide)
      have e2 := hT.1.cell 16 (by decide)
      rw [TS.prom _ _ (by decide) (by decide)] at e0 e1 e2
      obtain ⟨l', w', hrun, hz', hgr⟩ := zrow_append (wr.alloc (.cells #[.int .u64 0, .int .u64 0, .int .u64 0] 85)) w4.heap.size u5 0 wr.heap.size (hz.mod ((Mod.refl [] wr).alloc _) (by simp)) (by decide) (heap_new _ _) (by have := hM.size; simp; omega)
      have hge := ownsRow_ge hz
      have hm' := Mod.grownOwn ((Mod.refl [] wr).alloc (.cells #[.int .u64 0, .int .u64 0, .int .u64 0] 85)) hgr
      have hlt := HH4.out.1.lt
      have hlg : 1 < w4.heap.size := HH4.out.2.1.1
      have hT' := hT.mod hm' (fun hb => by rw [Option.mem_toList] at hb; have := (hge _ hb).1; omega) (fun hb => by rw [Option.mem_toList] at hb; have := (hge _ hb).1; omega)
      have hM' := hM.step hm' (fun x hx => by rw [Option.mem_toList] at hx; exact .inr (hge x hx).1)
      have HRUN := Lib.hid hrun
      have HE := Lib.hid (And.intro hz' (And.intro hT' hM'))
      clear hz hT hM hrun hz' hgr hge hm' hlt hlg hT' hM'
      go_wp2_with (at_builtin; with_reducible refine wpl_append_run _ rfl (.tmp 53) (.tmp 60) 241 rfl u5 (.slice (some ⟨wr.heap.size, 0, none⟩) 1 1) rfl rfl HRUN.out ?_)
      exact ⟨⟨1, rfl, by decide, HE.out.1, HE.out.2.1, HE.out.2.2⟩, by decide⟩
    · have xk := hM.at HX.out.2.1 (by simp)
      have e0 := hT.1.cell 17 (by decide)
      have e1 := hT.1.cell 18 (by decide)
      have e2 := hT.1.cell 19 (by decide)
      rw [TS.prom _ _ (by decide) (by decide)] at e0 e1 e2
      obtain ⟨l', w', hrun, hz', hgr⟩ := zrow_append (wr.alloc (.cells #[.int .u64 0, .int .u64 0, .int .u64 0] 85)) w4.heap.size u5 1 wr.heap.size (hz.mod ((Mod.refl [] wr).alloc _) (by simp)) (by decide) (heap_new _ _) (by have := hM.size; simp; omega)
      have hge := ownsRow_ge hz
      have hm' := Mod.grownOwn ((Mod.refl [] wr).alloc (.cells #[.int .u64 0, .int .u64 0, .int .u64 0] 85)) hgr
      have hlt := HH4.out.1.lt
      have hlg : 1 < w4.heap.size := HH4.out.2.1.1
      have hT' := hT.mod hm' (fun hb => by rw [Option.mem_toList] at hb; have := (hge _ hb).1; omega) (fun hb => by rw [Option.mem_toList] at hb; have := (hge _ hb).1; omega)
      have hM' := hM.step hm' (fun x hx => by rw [Option.mem_toList] at hx; exact .inr (hge x hx).1)
      have HRUN := Lib.hid hrun
      have HE := Lib.hid (And.intro hz' (And.intro hT' hM'))
      clear hz hT hM hrun hz' hgr hge hm' hlt hlg hT' hM'
      go_wp2_with (at_builtin; with_reducible refine wpl_append_run _ rfl (.tmp 53) (.tmp 60) 241 rfl u5 (.slice (some ⟨wr.heap.size, 0, none⟩) 1 1) rfl rfl HRUN.out ?_)
      exact ⟨⟨2, rfl, by decide, HE.out.1, HE.out.2.1, HE.out.2.2⟩, by decide⟩
    · have xk := hM.at HX.out.2.2 (by simp)
      have e0 := hT.1.cell 20 (by decide)
      have e1 := hT.1.cell 21 (by decide)
      have e2 := hT.1.cell 22 (by decide)
      rw [TS.prom _ _ (by decide) (by decide)] at e0 e1 e2
      obtain ⟨l', w', hrun, hz', hgr⟩ := zrow_append (wr.alloc (.cells #[.int .u64 0, .int .u64 0, .int .u64 0] 85)) w4.heap.size u5 2 wr.heap.size (hz.mod ((Mod.refl [] wr).alloc _) (by simp)) (by decide) (heap_new _ _) (by have := hM.size; simp; omega)
      have hge := ownsRow_ge hz
      have hm' := Mod.grownOwn ((Mod.refl [] wr).alloc (.cells #[.int .u64 0, .int .u64 0, .int .u64 0] 85)) hgr
      have hlt := HH4.out.1.lt
      have hlg : 1 < w4.heap.size := HH4.out.2.1.1
      have hT' := hT.mod hm' (fun hb => by rw [Option.mem_toList] at hb; have := (hge _ hb).1; omega) (fun hb => by rw [Option.mem_toList] at hb; have := (hge _ hb).1; omega)
      have hM' := hM.step hm' (fun x hx => by rw [Option.mem_toList] at hx; exact .inr (hge x hx).1)
      have HRUN := Lib.hid hrun
      have HE := Lib.hid (And.intro hz' (And.intro hT' hM'))
      clear hz hT hM hrun hz' hgr hge hm' hlt hlg hT' hM'
      go_wp2_with (at_builtin; with_reducible refine wpl_append_run _ rfl (.tmp 53) (.tmp 60) 241 rfl u5 (.slice (some ⟨wr.heap.size, 0, none⟩) 1 1) rfl rfl HRUN.out ?_)
      exact ⟨⟨3, rfl, by decide, HE.out.1, HE.out.2.1, HE.out.2.2⟩, by decide⟩
    · obtain ⟨g5, c5, rfl, hcs⟩ := hz.cells (by decide)
      have HP := Lib.hid (pick_zero g5 c5 wr hcs)
      have HH5 := Lib.hid hT
      have HM5 := Lib.hid (HM4.out.trans hM)
      clear hz hT hM hcs
      go_wp2_with fail
      refine HP.out.mono ?_
      rintro _ w6 ⟨rfl, hM6⟩
      have HH6 := Lib.hid (HH5.out.mod0 hM6)
      have HM6 := Lib.hid (HM5.out.trans hM6)
      clear hM6 HP HH5 HM5
      go_wp2_with fail
      have hmA := (Mod.refl [] w6).alloc (.cells #[.int .u64 0, .int .u64 0] 45)
      have HHW := Lib.hid (HH6.out.mod0 hmA)
      have HMW := Lib.hid (HM6.out.trans hmA)
      have HROW := Lib.hid (heap_new w6 (.cells #[.int .u64 0, .int .u64 0] 45))
      have htq : t ≠ w6.heap.size := Nat.ne_of_lt HH6.out.1.lt
      have HWQ := Lib.hid HM6.out.size
      have hgq : 1 ≠ w6.heap.size := Nat.ne_of_lt HH6.out.2.1.1
      have HGQ := Lib.hid hgq
      clear hmA HH6 HM6 hgq
      generalize w6.alloc (.cells #[.int .u64 0, .int .u64 0] 45) = W at HHW HMW HROW ⊢
      obtain ⟨q, hq⟩ : ∃ q, w6.heap.size = q := ⟨_, rfl⟩
      rw [hq] at HROW htq HWQ HGQ ⊢
      clear hq
      have k13 := HHW.out.1.k13
      have k11 := HHW.out.1.k11
      have k206 := HHW.out.1.k206
      rw [HHH.out.1] at k13
      rw [HHH.out.2.1] at k11
      have z0 := cell_in HROW.out (show (#[Value.int .u64 0, .int .u64 0] : Array Value)[0]? = some (.int .u64 0) from rfl)
      have z1 := cell_in HROW.out (show (#[Value.int .u64 0, .int .u64 0] : Array Value)[1]? = some (.int .u64 0) from rfl)
      have f0 := free_in (j := 0) HROW.out
      have f1 := free_in (j := 1) HROW.out
      have hb1 : bits .and .u64 7 7 = 7 := by decide
      obtain ⟨fa, hfa⟩ : ∃ x, s.far = x := ⟨_, rfl⟩
      rw [hfa] at k206 HS
      have HFA := Lib.hid hfa
      clear hfa
      go_region
      try rw [hb1]
      have hrow7 : ((W.setCell ⟨q, 0, none⟩ (.int .u64 7)).setCell ⟨q, 1, none⟩ (.int .u64 fa)).drew.heap[q]? = some (.cells #[.int .u64 7, .int .u64 fa] 45 (0, 0)) := by
        simp [World.setCell, World.drew, World.drewN, Array.getElem?_modify, HROW.out]
      have hm7 : Mod [q] W ((W.setCell ⟨q, 0, none⟩ (.int .u64 7)).setCell ⟨q, 1, none⟩ (.int .u64 fa)).drew := (((Mod.refl [q] W).setCell (.inl (by simp)) _).setCell (.inl (by simp)) _).drew
      have HH7 := Lib.hid (HHW.out.mod hm7 (by simpa using htq) (by simpa using HGQ.out))
      have HM7 := Lib.hid (HMW.out.step hm7 (fun x hx => .inr (by simp at hx; have := HWQ.out; omega)))
      have HR7 := Lib.hid hrow7
      clear hrow7 hm7 HHW HMW HROW k13 k11 k206 z0 z1 f0 f1 hb1
      generalize ((W.setCell ⟨q, 0, none⟩ (.int .u64 7)).setCell ⟨q, 1, none⟩ (.int .u64 fa)).drew = w7 at HH7 HM7 HR7 ⊢
      have z0 := cell_in HR7.out (show (#[Value.int .u64 7, .int .u64 fa] : Array Value)[0]? = some (.int .u64 7) from rfl)
      have k6 := HH7.out.1.k6
      go_wp2_with fail
      go_region_held3 (fun w' => w'.cell? ⟨q, 0, none⟩ = some (.int .u64 7) ∧ w'.cell? ⟨t, 6, none⟩ = some (.int .u64 7)) (exact ⟨z0, k6⟩) ((go_at_call 29; refine (HMJ.out _).mono ?_; rintro _ w8 ⟨rfl, rfl⟩))
      have HH8 := Lib.hid (HH7.out.mod0 (Mod.refl [] w7).drew)
      have HM8 := Lib.hid HM7.out.drew
      have HR8 := Lib.hid (row_mod (Mod.refl [] w7).drew HR7.out (by simp))
      clear z0 k6 HH7 HM7 HR7
      generalize w7.drew = w8 at HH8 HM8 HR8 ⊢
      have z0 := cell_in HR8.out (show (#[Value.int .u64 7, .int .u64 fa] : Array Value)[0]? = some (.int .u64 7) from rfl)
      have f0 := free_in (j := 0) HR8.out
      have k12 := HH8.out.1.k12
      have hor := HHH.out.2.2
      obtain ⟨J, hJ⟩ : ∃ x, s.joins = x := ⟨_, rfl⟩
      rw [hJ] at k12 hor
      go_wp2_with fail
      go_region
      try rw [hor]
      have hrow9 : (w8.setCell ⟨q, 0, none⟩ (.int .u64 M)).drew.heap[q]? = some (.cells #[.int .u64 M, .int .u64 fa] 45 (0, 0)) := by
        simp [World.setCell, World.drew, World.drewN, Array.getElem?_modify, HR8.out]
      have hm9 : Mod [q] w8 (w8.setCell ⟨q, 0, none⟩ (.int .u64 M)).drew := ((Mod.refl [q] w8).setCell (.inl (by simp)) _).drew
      have HH9 := Lib.hid (HH8.out.mod hm9 (by simpa using htq) (by simpa using HGQ.out))
      have HM9 := Lib.hid (HM8.out.step hm9 (fun x hx => .inr (by simp at hx; have := HWQ.out; omega)))
      have HR9 := Lib.hid hrow9
      clear hrow9 hm9 HH8 HM8 HR8 z0 f0 k12 hor hJ
      generalize (w8.setCell ⟨q, 0, none⟩ (.int .u64 M)).drew = w9 at HH9 HM9 HR9 ⊢
      have z0 := cell_in HR9.out (show (#[Value.int .u64 M, .int .u64 fa] : Array Value)[0]? = some (.int .u64 M) from rfl)
      have z1 := cell_in HR9.out (show (#[Value.int .u64 M, .int .u64 fa] : Array Value)[1]? = some (.int .u64 fa) from rfl)
      have k207 := HH9.out.1.k207
      have k208 := HH9.out.1.k208
      have k209 := HH9.out.1.k209
      have f207 := HH9.out.1.free 207
      have f208 := HH9.out.1.free 208
      have f209 := HH9.out.1.free 209
      go_wp2_with fail
      go_region
      have hmA : Mod [t] w9 ((((w9.setCell ⟨t, 207, none⟩ (.bool true)).setCell ⟨t, 208, none⟩ (.int .u64 M)).setCell ⟨t, 209, none⟩ (.int .u64 fa)).drew) := ((((Mod.refl [t] w9).setCell (.inl (by simp)) _).setCell (.inl (by simp)) _).setCell (.inl (by simp)) _).drew
      have HHA := Lib.hid (HH9.out.own hmA ((((HH9.out.1.s207 true).s208 M).s209 fa).drew))
      have HMA := Lib.hid ((HM9.out.mono (T := [t]) (by simp)).trans hmA)
      clear hmA HH9 HM9 HR9 z0 z1 k207 k208 k209 f207 f208 f209
      generalize (((w9.setCell ⟨t, 207, none⟩ (.bool true)).setCell ⟨t, 208, none⟩ (.int .u64 M)).setCell ⟨t, 209, none⟩ (.int .u64 fa)).drew = wA at HHA HMA ⊢
      have HWA := Lib.hid (show Calls Tryz.prog 132 #[.pointer (some ⟨t, 9, none⟩)] wA fun e w' => e = .returned (.agg #[.int .i64 6, .int .i64 0, .int .i64 0, .int .u64 0, .int .i64 0, .slice none 0 0, .int .u64 0, .int .u64 0, .int .u64 s.bal, .int .u64 0, .int .u64 0, .int .u64 M, .int .u64 fa, .slice none 0 0, .slice none 0 0, .float .f64 0]) ∧ Mod [] wA w' from waccept_is t _ wA HHA.out)
      go_wp2_with fail
      refine HWA.out.mono ?_
      rintro _ wB ⟨rfl, hMB⟩
      have HMB := Lib.hid (HMA.out.trans (hMB.mono (by simp)))
      have hHB := HHA.out.mod0 hMB
      rw [HFA.out] at hHB
      have HTB := Lib.hid (HS.out _ hHB)
      clear hMB hHB
      go_wp2_with fail
      refine HTB.out.mono ?_
      rintro _ wC ⟨v, rfl, hO⟩
      have HO := Lib.hid (hO.back HMB.out)
      clear hO
      go_wp2_with fail
      go_ret2
      exact ⟨v, rfl, HO.out⟩

end Go.Proofs.YtaaaiggbnkeblaaGreatDoor

namespace Go.Proofs.YtaaaiggbnkeblaaGreatDoor
set_option linter.unusedSimpArgs false
set_option linter.unusedVariables false
open Go.RowKit

/-- A turn that has just begun. -/
def TS.zero (me : Nat) : TS := ⟨0, 0, 0, 0, me, false, 0, 0, 0, 0, 0, 0, 0, false, 0, 0, 0, false, 0, 0, false⟩
theorem turn_list0 : (turnCells 0 4 7).toList = (List.range 215).map (TS.zero 0).c := by kernel_rfl
theorem turn_list1 : (turnCells 1 4 7).toList = (List.range 215).map (TS.zero 1).c := by kernel_rfl
theorem turn_list2 : (turnCells 2 4 7).toList = (List.range 215).map (TS.zero 2).c := by kernel_rfl
theorem Turn0.at_ {w : World} {t : Nat} (me : Nat) (n : Int) (hl : (turnCells n 4 7).toList = (List.range 215).map (TS.zero me).c) (h : Turn0 w t n 4 7) : TurnAt w t (TS.zero me).c := by
  refine ⟨fun j hj => ?_, fun j => free_in h⟩
  refine cell_in h ?_
  rw [← Array.getElem?_toList, hl, List.getElem?_map, List.getElem?_range hj]
  rfl

/-- The wish that Begin makes, as cells. -/
noncomputable def wishCells (b sn lv J : Int) : Array Value := (((Tryz.zeroCells90.setIfInBounds 0 (.int .u64 b)).setIfInBounds 1 (.int .u64 sn)).setIfInBounds 2 (.int .u64 lv)).setIfInBounds 3 (.int .u64 J)
def TS.wish (s : TS) (b sn lv J : Int) : TS := { s with bal := b, seen := sn, live := lv, joins := J, heard := 0, far := 0, asked := false, wm := 0, wc := 0, taken := 0 }
theorem wish_list (b sn lv J : Int) (s : TS) : (wishCells b sn lv J).toList = (List.range 202).map fun i => (s.wish b sn lv J).c (9 + i) := by kernel_rfl

theorem wish_len (b sn lv J : Int) : (wishCells b sn lv J).toList.length = 202 := by
  rw [wish_list b sn lv J (TS.zero 0), List.length_map, List.length_range]
theorem TurnAt.wish {w : World} {t : Nat} {s : TS} (h : TurnAt w t s.c) (b sn lv J : Int) : TurnAt (w.setCells t 9 (wishCells b sn lv J).toList) t (s.wish b sn lv J).c := by
  have hlen := wish_len b sn lv J
  refine ⟨fun j hj => ?_, fun j => (World.frozen?_setCells t _ 9 w _).trans (h.free j)⟩
  by_cases hin : 9 ≤ j ∧ j < 211
  · obtain ⟨i, rfl⟩ : ∃ i, j = 9 + i := ⟨j - 9, by omega⟩
    have hi : i < (wishCells b sn lv J).toList.length := by rw [hlen]; omega
    rw [World.cell?_setCells_in t _ 9 w (fun i hi => by rw [h.cell (9 + i) (by rw [hlen] at hi; omega)]; rfl) i hi]
    have e : (wishCells b sn lv J).toList[i]? = some ((s.wish b sn lv J).c (9 + i)) := by
      rw [wish_list b sn lv J s, List.getElem?_map, List.getElem?_range (by omega)]
      rfl
    rw [List.getElem?_eq_getElem hi] at e
    exact e
  · rw [World.cell?_setCells_out t _ 9 w ⟨t, j, none⟩ (fun _ _ => by rw [hlen]; show j < 9 ∨ 9 + 202 ≤ j; omega), h.cell j hj]
    unfold TS.wish TS.c
    simp only [if_neg (show ¬ j = 9 by omega), if_neg (show ¬ j = 10 by omega), if_neg (show ¬ j = 11 by omega), if_neg (show ¬ j = 12 by omega), if_neg (show ¬ j = 13 by omega), if_neg (show ¬ j = 206 by omega), if_neg (show ¬ j = 207 by omega), if_neg (show ¬ j = 208 by omega), if_neg (show ¬ j = 209 by omega), if_neg (show ¬ j = 210 by omega)]
theorem TurnAt.there {w : World} {t : Nat} {s : TS} (h : TurnAt w t s.c) : w.there t 9 202 := fun j hj => ⟨by rw [h.cell (9 + j) (by omega)]; rfl, h.free _⟩
theorem mod_setCells (b : Nat) : ∀ (vs : List Value) (o : Nat) (w : World), Mod [b] w (w.setCells b o vs)
  | [], _, _ => Mod.refl _ _
  | v :: r, o, w => by
    rw [World.setCells]
    exact ((Mod.refl [b] w).setCell (.inl (by simp)) v).trans (mod_setCells b r (o + 1) _)
theorem wish_one (b sn lv J : Int) : (wishCells b sn lv J).all (·.oneCell') = true := by kernel_rfl
theorem wish_size (b sn lv J : Int) : (Tryz.prog.info? 90).map (·.size) = some (wishCells b sn lv J).size := by kernel_rfl
theorem wish_size' (b sn lv J : Int) : (wishCells b sn lv J).size = 202 := by kernel_rfl

end Go.Proofs.YtaaaiggbnkeblaaGreatDoor

namespace Go.Proofs.YtaaaiggbnkeblaaGreatDoor
set_option linter.unusedSimpArgs false
set_option linter.unusedVariables false
open Go.RowKit

set_option maxRecDepth 100000 in
set_option maxHeartbeats 8000000 in
theorem begin_is (t : Nat) (s' : TS) (L : List Let) (J r : Int)
    (HT : Gives1 t (((TS.zero 0).freeze r).wish 65 0 7 J) s' L 34 #[.pointer (some ⟨t, 0, none⟩), .agg #[.int .i64 4, .int .i64 0, .int .i64 0, .int .u64 0, .int .i64 0, .slice none 0 0, .int .u64 0, .int .u64 0, .int .u64 65, .int .u64 0, .int .u64 0, .int .u64 0, .int .u64 0, .slice none 0 0, .slice none 0 0, .float .f64 0]]) :
    Gives t (TS.zero 0) s' L 0 7 #[.pointer (some ⟨t, 0, none⟩), .int .u64 7, .int .u64 J, .int .u64 r] := by
  intro w h
  have k211 : w.cell? ⟨t, 211, none⟩ = some (.bool false) := h.1.k211
  have k6 := h.1.k6
  have HH := Lib.hid h
  have HS := Lib.hid HT
  have HMJ := Lib.hid (major_is 7 7 7 0 true (by decide) (by decide) (by decide) (by decide) (by decide))
  clear h HT
  go_enter Tryz.func7, Tryz.ntmps7
  go_wp2_with fail
  refine (HMJ.out _).mono ?_
  rintro _ w1 ⟨rfl, rfl⟩
  go_wp2_with fail
  clear k211 k6
  have k0 : w.cell? ⟨t, 0, none⟩ = some (.int .u64 0) := HH.out.1.k0
  have k9 : w.cell? ⟨t, 9, none⟩ = some (.int .u64 0) := HH.out.1.k9
  have k10 : w.cell? ⟨t, 10, none⟩ = some (.int .u64 0) := HH.out.1.k10
  go_region_held3 (fun w' => w'.cell? ⟨t, 9, none⟩ = some (.int .u64 0) ∧ w'.cell? ⟨t, 10, none⟩ = some (.int .u64 0)) (exact ⟨k9, k10⟩) ((first | (go_at_call 31; refine (top_is t 0 w.drew k0).mono ?_; rintro _ w5 ⟨rfl, rfl⟩) | (go_at_call 30; refine (owner_zero _).mono ?_; rintro _ w5 ⟨rfl, rfl⟩)))
  have HH2 := Lib.hid (HH.out.mod0 (Mod.refl [] w).drew)
  have HM2 := Lib.hid ((Mod.refl [t] w).drew)
  clear k0 k9 k10 HH
  generalize w.drew = w2 at HH2 HM2 ⊢
  have k4 : w2.cell? ⟨t, 4, none⟩ = some (.int .i64 0) := HH2.out.1.k4
  go_wp2_with fail
  refine (number_one _).mono ?_
  rintro _ w3 ⟨rfl, rfl⟩
  go_wp2_with fail
  refine (freeze_s t (TS.zero 0) r _ HH2.out).mono ?_
  rintro _ w4 ⟨rfl, hT4, hM4⟩
  have HH4 := Lib.hid hT4
  have HM4 := Lib.hid (HM2.out.trans hM4)
  clear hT4 hM4 k4 HH2 HM2
  have k10 : w4.cell? ⟨t, 10, none⟩ = some (.int .u64 0) := HH4.out.1.k10
  have k4 : w4.cell? ⟨t, 4, none⟩ = some (.int .i64 0) := HH4.out.1.k4
  go_wp2_with fail
  go_cut [] (fun wx => wx = w4.drew.setCells t 9 (wishCells 65 0 7 J).toList)
  case first =>
    refine wp_region_held_drew (S := fun w' => w'.cell? ⟨t, 10, none⟩ = some (.int .u64 0) ∧ w'.cell? ⟨t, 4, none⟩ = some (.int .i64 0)) (by kernel_rfl) (by exact ⟨k10, k4⟩) (fun hHeld => ?_)
    refine wpAnyH_take (i := 0) (oi := ?oi0) (v := ?v0) ?hi0 (by kernel_rfl) (by kernel_rfl) (by kernel_rfl) ?hq0 ?hy0 (by assumption) ?rest0
    case hi0 => (simp only [List.getElem?_toArray, List.getElem?_cons_succ, List.getElem?_cons_zero]; rfl)
    case hq0 => exact fun _ _ _ h => h
    case hy0 =>
      refine Or.inl ⟨by rfl, ?_⟩
      intro w hSw
      (try dsimp only at hSw)
      go_simp
      try with_reducible rfl
    try simp only [Act.put, List.setIfInBounds_toArray, List.set_cons_zero, List.set_cons_succ]
    refine wpAnyH_take (i := 1) (oi := ?oi1) (v := ?v1) ?hi1 (by kernel_rfl) (by kernel_rfl) (by kernel_rfl) ?hq1 ?hy1 (by assumption) ?rest1
    case hi1 => (simp only [List.getElem?_toArray, List.getElem?_cons_succ, List.getElem?_cons_zero]; rfl)
    case hq1 => exact fun _ _ _ h => h
    case hy1 =>
      refine Or.inl ⟨by rfl, ?_⟩
      intro w hSw
      (try dsimp only at hSw)
      go_simp
      try with_reducible rfl
    try simp only [Act.put, List.setIfInBounds_toArray, List.set_cons_zero, List.set_cons_succ]
    refine wpAnyH_take (i := 2) (oi := ?oi2) (v := ?v2) ?hi2 (by kernel_rfl) (by kernel_rfl) (by kernel_rfl) ?hq2 ?hy2 (by assumption) ?rest2
    case hi2 => (simp only [List.getElem?_toArray, List.getElem?_cons_succ, List.getElem?_cons_zero]; rfl)
    case hq2 => exact fun _ _ _ h => h
    case hy2 =>
      refine Or.inl ⟨by rfl, ?_⟩
      intro w hSw
      (try dsimp only at hSw)
      go_simp
      try with_reducible rfl
    try simp only [Act.put, List.setIfInBounds_toArray, List.set_cons_zero, List.set_cons_succ]
    refine wpAnyH_take (i := 3) (oi := ?oi3) (v := ?v3) ?hi3 (by kernel_rfl) (by kernel_rfl) (by kernel_rfl) ?hq3 ?hy3 (by assumption) ?rest3
    case hi3 => (simp only [List.getElem?_toArray, List.getElem?_cons_succ, List.getElem?_cons_zero]; rfl)
    case hq3 => exact fun _ _ _ h => h
    case hy3 =>
      refine Or.inl ⟨by rfl, ?_⟩
      intro w hSw
      (try dsimp only at hSw)
      go_simp
      try with_reducible rfl
    try simp only [Act.put, List.setIfInBounds_toArray, List.set_cons_zero, List.set_cons_succ]
    refine wpAnyH_take (i := 4) (oi := ?oi4) (v := ?v4) ?hi4 (by kernel_rfl) (by kernel_rfl) (by kernel_rfl) ?hq4 ?hy4 (by assumption) ?rest4
    case hi4 => (simp only [List.getElem?_toArray, List.getElem?_cons_succ, List.getElem?_cons_zero]; rfl)
    case hq4 => exact fun _ _ _ h => h
    case hy4 =>
      refine Or.inl ⟨by rfl, ?_⟩
      intro w hSw
      (try dsimp only at hSw)
      go_simp
      try with_reducible rfl
    try simp only [Act.put, List.setIfInBounds_toArray, List.set_cons_zero, List.set_cons_succ]
    refine wpAnyH_take (i := 5) (oi := ?oi5) (v := ?v5) ?hi5 (by kernel_rfl) (by kernel_rfl) (by kernel_rfl) ?hq5 ?hy5 (by assumption) ?rest5
    case hi5 => (simp only [List.getElem?_toArray, List.getElem?_cons_succ, List.getElem?_cons_zero]; rfl)
    case hq5 => exact fun _ _ _ h => h
    case hy5 =>
      refine Or.inl ⟨by rfl, ?_⟩
      intro w hSw
      (try dsimp only at hSw)
      go_simp
      try with_reducible rfl
    try simp only [Act.put, List.setIfInBounds_toArray, List.set_cons_zero, List.set_cons_succ]
    refine wpAnyH_take (i := 6) (oi := ?oi6) (v := ?v6) ?hi6 (by kernel_rfl) (by kernel_rfl) (by kernel_rfl) ?hq6 ?hy6 (by assumption) ?rest6
    case hi6 => (simp only [List.getElem?_toArray, List.getElem?_cons_succ, List.getElem?_cons_zero]; rfl)
    case hq6 => exact fun _ _ _ h => h
    case hy6 =>
      refine Or.inl ⟨by rfl, ?_⟩
      intro w hSw
      (try dsimp only at hSw)
      go_simp
      try with_reducible rfl
    try simp only [Act.put, List.setIfInBounds_toArray, List.set_cons_zero, List.set_cons_succ]
    refine wpAnyH_take (i := 7) (oi := ?oi7) (v := ?v7) ?hi7 (by kernel_rfl) (by kernel_rfl) (by kernel_rfl) ?hq7 ?hy7 (by assumption) ?rest7
    case hi7 => (simp only [List.getElem?_toArray, List.getElem?_cons_succ, List.getElem?_cons_zero]; rfl)
    case hq7 => exact fun _ _ _ h => h
    case hy7 =>
      refine Or.inl ⟨by rfl, ?_⟩
      intro w hSw
      (try dsimp only at hSw)
      go_simp
      try with_reducible rfl
    try simp only [Act.put, List.setIfInBounds_toArray, List.set_cons_zero, List.set_cons_succ]
    refine wpAnyH_take (i := 8) (oi := ?oi8) (v := ?v8) ?hi8 (by kernel_rfl) (by kernel_rfl) (by kernel_rfl) ?hq8 ?hy8 (by assumption) ?rest8
    case hi8 => (simp only [List.getElem?_toArray, List.getElem?_cons_succ, List.getElem?_cons_zero]; rfl)
    case hq8 => exact fun _ _ _ h => h
    case hy8 =>
      refine Or.inl ⟨by rfl, ?_⟩
      intro w hSw
      (try dsimp only at hSw)
      go_simp
      try with_reducible rfl
    try simp only [Act.put, List.setIfInBounds_toArray, List.set_cons_zero, List.set_cons_succ]
    refine wpAnyH_take (i := 9) (oi := ?oi9) (v := ?v9) ?hi9 (by kernel_rfl) (by kernel_rfl) (by kernel_rfl) ?hq9 ?hy9 (by assumption) ?rest9
    case hi9 => (simp only [List.getElem?_toArray, List.getElem?_cons_succ, List.getElem?_cons_zero]; rfl)
    case hq9 => exact fun _ _ _ h => h
    case hy9 =>
      refine Or.inl ⟨by rfl, ?_⟩
      intro w hSw
      (try dsimp only at hSw)
      go_simp
      try with_reducible rfl
    try simp only [Act.put, List.setIfInBounds_toArray, List.set_cons_zero, List.set_cons_succ]
    refine wpAnyH_take (i := 10) (oi := ?oi10) (v := ?v10) ?hi10 (by kernel_rfl) (by kernel_rfl) (by kernel_rfl) ?hq10 ?hy10 (by assumption) ?rest10
    case hi10 => (simp only [List.getElem?_toArray, List.getElem?_cons_succ, List.getElem?_cons_zero]; rfl)
    case hq10 => exact fun _ _ _ h => h
    case hy10 =>
      refine Or.inl ⟨by rfl, ?_⟩
      intro w hSw
      (try dsimp only at hSw)
      go_simp
      try with_reducible rfl
    try simp only [Act.put, List.setIfInBounds_toArray, List.set_cons_zero, List.set_cons_succ]
    refine wpAnyH_take (i := 11) (oi := ?oi11) (v := ?v11) ?hi11 (by kernel_rfl) (by kernel_rfl) (by kernel_rfl) ?hq11 ?hy11 (by assumption) ?rest11
    case hi11 => (simp only [List.getElem?_toArray, List.getElem?_cons_succ, List.getElem?_cons_zero]; rfl)
    case hq11 => exact fun _ _ _ h => h
    case hy11 =>
      refine Or.inl ⟨by rfl, ?_⟩
      intro w hSw
      (try dsimp only at hSw)
      go_simp
      try with_reducible rfl
    try simp only [Act.put, List.setIfInBounds_toArray, List.set_cons_zero, List.set_cons_succ]
    refine wpAnyH_take (i := 13) (oi := ?oi13) (v := ?v13) ?hi13 (by kernel_rfl) (by kernel_rfl) (by kernel_rfl) ?hq13 ?hy13 (by assumption) ?rest13
    case hi13 => (simp only [List.getElem?_toArray, List.getElem?_cons_succ, List.getElem?_cons_zero]; rfl)
    case hq13 => exact fun _ _ _ h => h
    case hy13 =>
      refine Or.inl ⟨by rfl, ?_⟩
      intro w hSw
      (try dsimp only at hSw)
      go_simp
      try with_reducible rfl
    try simp only [Act.put, List.setIfInBounds_toArray, List.set_cons_zero, List.set_cons_succ]
    refine wpAnyH_ready (rs := [12]) (by kernel_rfl) (by simp) ?_
    refine AllReadyH.cons (o := _) rfl (fun K hK => ?_) AllReadyH.nil
    go_simp
    go_at_call 33
    refine (with_is 7 7 0 (by decide) (by decide) _).mono ?_
    rintro _ w5 ⟨rfl, rfl⟩
    try go_wp2_with fail
    refine hK.out _ _ (by exact ⟨k10, k4⟩) (fun hHeld => ?_)
    clear hK K
    try simp only [Act.put, List.setIfInBounds_toArray, List.set_cons_zero, List.set_cons_succ]
    refine wpAnyH_take (i := 14) (oi := ?oi14) (v := ?v14) ?hi14 (by kernel_rfl) (by kernel_rfl) (by kernel_rfl) ?hq14 ?hy14 (by assumption) ?rest14
    case hi14 => (simp only [List.getElem?_toArray, List.getElem?_cons_succ, List.getElem?_cons_zero]; rfl)
    case hq14 => exact fun _ _ _ h => h
    case hy14 =>
      refine Or.inl ⟨by rfl, ?_⟩
      intro w hSw
      (try dsimp only at hSw)
      go_simp
      try with_reducible rfl
    try simp only [Act.put, List.setIfInBounds_toArray, List.set_cons_zero, List.set_cons_succ]
    refine wpAnyH_take (i := 15) (oi := ?oi15) (v := ?v15) ?hi15 (by kernel_rfl) (by kernel_rfl) (by kernel_rfl) ?hq15 ?hy15 (by assumption) ?rest15
    case hi15 => (simp only [List.getElem?_toArray, List.getElem?_cons_succ, List.getElem?_cons_zero]; rfl)
    case hq15 => exact fun _ _ _ h => h
    case hy15 =>
      refine Or.inl ⟨by rfl, ?_⟩
      intro w hSw
      (try dsimp only at hSw)
      go_simp
      try with_reducible rfl
    try simp only [Act.put, List.setIfInBounds_toArray, List.set_cons_zero, List.set_cons_succ]
    refine wpAnyH_take (i := 16) (oi := ?oi16) (v := ?v16) ?hi16 (by kernel_rfl) (by kernel_rfl) (by kernel_rfl) ?hq16 ?hy16 (by assumption) ?rest16
    case hi16 => (simp only [List.getElem?_toArray, List.getElem?_cons_succ, List.getElem?_cons_zero]; rfl)
    case hq16 => exact fun _ _ _ h => h
    case hy16 =>
      refine Or.inl ⟨by rfl, ?_⟩
      intro w hSw
      (try dsimp only at hSw)
      go_simp
      try with_reducible rfl
    try simp only [Act.put, List.setIfInBounds_toArray, List.set_cons_zero, List.set_cons_succ]
    refine wpAnyH_ready (rs := [17]) (by kernel_rfl) (by simp) ?_
    refine AllReadyH.cons (o := _) rfl (fun K hK => ?_) AllReadyH.nil
    rw [if_pos (by rfl)]
    have hTW := HH4.out.1.drew.wish 65 0 7 J
    refine wp_store_mid 90 _ _ rfl t 9 (wishCells 65 0 7 J) rfl rfl (by rw [wish_size']; exact HH4.out.1.drew.there) (wish_size _ _ _ _) (wish_one _ _ _ _) ?_
    refine hK.out _ _ (by exact ⟨hTW.k10, hTW.k4⟩) (fun hHeld => ?_)
    clear hK K
    try simp only [Act.put, List.setIfInBounds_toArray, List.set_cons_zero, List.set_cons_succ]
    refine wpAnyH_done (by kernel_rfl) ?_ _
    go_wp2_with fail
    go_meet
    rfl
  case rest =>
    subst hcut
    have hM5 := (Mod.refl [t] w4).drew.trans (mod_setCells t (wishCells 65 0 7 J).toList 9 w4.drew)
    have HH5 := Lib.hid (HH4.out.own hM5 (HH4.out.1.drew.wish 65 0 7 J))
    have HM5 := Lib.hid (HM4.out.trans hM5)
    clear hM5 HH4 HM4 k10 k4
    generalize w4.drew.setCells t 9 (wishCells 65 0 7 J).toList = w5 at HH5 HM5 ⊢
    have HWA := Lib.hid (show Calls Tryz.prog 35 #[.pointer (some ⟨t, 9, none⟩)] w5 fun e w' => e = .returned (.agg #[.int .i64 4, .int .i64 0, .int .i64 0, .int .u64 0, .int .i64 0, .slice none 0 0, .int .u64 0, .int .u64 0, .int .u64 65, .int .u64 0, .int .u64 0, .int .u64 0, .int .u64 0, .slice none 0 0, .slice none 0 0, .float .f64 0]) ∧ Mod [] w5 w' from wprepare_is t _ w5 HH5.out)
    go_wp2_with fail
    refine HWA.out.mono ?_
    rintro _ wB ⟨rfl, hMB⟩
    have HMB := Lib.hid (HM5.out.trans (hMB.mono (by simp)))
    have HTB := Lib.hid (HS.out _ (HH5.out.mod0 hMB))
    clear hMB
    go_wp2_with fail
    refine HTB.out.mono ?_
    rintro _ wC ⟨v, rfl, hO⟩
    have HO := Lib.hid (hO.back HMB.out)
    clear hO
    go_wp2_with fail
    go_ret2
    exact ⟨v, rfl, HO.out⟩

end Go.Proofs.YtaaaiggbnkeblaaGreatDoor
