/-
  TopKnown: a detector of a calm group, as a record; take at an update that is known.
-/
import Derived.Test.YtaaaiggbnkeblaaGreatDoorMKnF
import Derived.Test.YtaaaiggbnkeblaaGreatDoorMKnR
namespace Go.Proofs.YtaaaiggbnkeblaaGreatDoor
set_option linter.unusedSimpArgs false
set_option linter.unusedVariables false
open Go.RowKit

/-- A detector: its block, its roll's, its queue's map; who it is, whom it knows; the round's rest; the watches; seq, now. -/
structure KS where
  d : Nat
  r : Nat
  b : Nat
  me : Nat
  has : Nat
  f : Nat → Int × Int × Int
  L : List Int
  W : Value
  s : Int
  x : Int
structure KS.At (K : KS) (w : World) (G : List Nat) (n : Nat) : Prop where
  roll : w.cell? ⟨K.d, 0, none⟩ = some (.pointer (some ⟨K.r, 0, none⟩))
  left : RoundO G w K.d K.L
  me : w.cell? ⟨K.d, 2, none⟩ = some (.int .i64 K.me)
  rum : w.cell? ⟨K.d, 3, none⟩ = some (.map (some K.b))
  dou : w.cell? ⟨K.d, 4, none⟩ = some (.map none)
  wat : w.cell? ⟨K.d, 5, none⟩ = some K.W
  err : w.cell? ⟨K.d, 6, none⟩ = some (.slice none 0 0)
  seq : w.cell? ⟨K.d, 7, none⟩ = some (.int .u64 K.s)
  now : w.cell? ⟨K.d, 8, none⟩ = some (.int .u64 K.x)
  gone : w.cell? ⟨K.d, 9, none⟩ = some (.bool false)
  free : ∀ j, w.frozen? ⟨K.d, j, none⟩ = false
  calm : Calm w K.r K.me K.has K.f
  q : QMap w K.b n
  len : K.L.length ≤ 100
  ne : K.d ≠ K.r ∧ K.d ≠ K.b ∧ K.r ≠ K.b
  inG : K.d ∈ G ∧ K.r ∈ G ∧ K.b ∈ G
  lo : ∀ g ∈ G, g < w.heap.size
theorem KS.At.lt {K : KS} {w : World} {G : List Nat} {n : Nat} (h : K.At w G n) : K.d < w.heap.size := block_lt_of_cell h.roll
theorem KS.At.mod {K : KS} {w w' : World} {G S : List Nat} {n : Nat} (h : K.At w G n) (hm : Mod S w w') (hS : ∀ s ∈ S, s ∈ G) (hd : K.d ∉ S) (hr : K.r ∉ S) (hb : K.b ∉ S) : K.At w' G n :=
  ⟨hm.at h.roll hd, h.left.mod hm hd hS, hm.at h.me hd, hm.at h.rum hd, hm.at h.dou hd, hm.at h.wat hd, hm.at h.err hd, hm.at h.seq hd, hm.at h.now hd, hm.at h.gone hd, fun j => (hm.frozen (by exact h.lt) hd).trans (h.free j), h.calm.mod hm hr, h.q.kept hm hb, h.len, h.ne, h.inG, fun g hg => Nat.lt_of_lt_of_le (h.lo g hg) hm.size⟩
theorem KS.At.same {K : KS} {w w' : World} {G : List Nat} {n : Nat} (h : K.At w G n) (hm : Mod [] w w') : K.At w' G n := h.mod hm (by simp) (by simp) (by simp) (by simp)

/-- It knows node k. -/
def KS.knows (K : KS) (k : Nat) : Prop := (bits .and .u64 (K.has : Int) (2 ^ k) != 0) = true

theorem kmine {K : KS} {w : World} {G : List Nat} {n : Nat} (h : K.At w G n) : Calls Tryz.prog 47 #[.pointer (some ⟨K.r, 0, none⟩)] w fun e w' => e = .returned (.agg #[.int .i64 K.me, .int .u64 0, .int .i64 0]) ∧ Mod [] w w' := by
  have h0 := mine_any K.r K.me (by have := h.calm.me6; omega) K.f K.has w h.calm.roll
  rw [show K.f K.me = ((K.me : Int), 0, 0) from h.calm.calm K.me h.calm.me6 h.calm.own] at h0
  exact h0
theorem kget {K : KS} {w : World} {G : List Nat} {n k : Nat} (h : K.At w G n) (hk : k < 6) (hb : K.knows k) : Calls Tryz.prog 49 #[.pointer (some ⟨K.r, 0, none⟩), .int .i64 k] w fun e w' => e = .returned (.tuple #[.agg #[.int .i64 k, .int .u64 0, .int .i64 0], .bool true]) ∧ Mod [] w w' := by
  have h0 := get_has K.r k (by omega) K.me K.has K.f w h.calm.roll hb
  rw [show K.f k = ((k : Int), 0, 0) from h.calm.calm k hk hb] at h0
  exact h0
theorem kgetn {K : KS} {w : World} {G : List Nat} {n k : Nat} (h : K.At w G n) (hk : k < 6) (hb : ¬ K.knows k) : Calls Tryz.prog 49 #[.pointer (some ⟨K.r, 0, none⟩), .int .i64 k] w fun e w' => e = .returned (.tuple #[.agg #[.int .i64 0, .int .u64 0, .int .i64 0], .bool false]) ∧ Mod [] w w' :=
  get_not K.r k (by omega) K.me K.has K.f w h.calm.roll (by unfold KS.knows at hb; simpa using hb)
theorem khear_old {K : KS} {w : World} {G : List Nat} {n k : Nat} (h : K.At w G n) (hk : k < 6) (hb : K.knows k) : Calls Tryz.prog 97 #[.pointer (some ⟨K.r, 0, none⟩), .agg #[.int .i64 k, .int .u64 0, .int .i64 0]] w fun e w' => e = .returned (.tuple #[.bool false, .int .i64 70]) ∧ Mod [] w w' := by
  by_cases e : k = K.me
  · subst e
    exact hear_own_old K.r K.me (by have := h.calm.me6; omega) K.f K.has 0 0 (by decide) w h.calm.roll (by rw [show K.f K.me = ((K.me : Int), 0, 0) from h.calm.calm K.me h.calm.me6 h.calm.own]; show decide (0 < or2 (cmp3 0 0) (cmp3 0 0)) = false; decide)
  · exact hear_old K.r K.me k (by have := h.calm.me6; omega) (by omega) e 0 0 K.has (by decide) K.f w h.calm.roll hb (by rw [show K.f k = ((k : Int), 0, 0) from h.calm.calm k hk hb]; show decide (0 < or2 (cmp3 0 0) (cmp3 0 0)) = false; decide)

theorem run_delete_nil_int {P : Program} {t k e ty : TypeId} {w : World} (ht : P.underlying t = some (.map k e)) (hk : P.underlying k = some (.int .i64)) (x : Int) : (Builtin.delete_ #[t, k] ty #[.map none, .int .i64 x]).run P w = .ok (.tuple #[]) w := by
  simp [Builtin.delete_, mrun_underlying ht, Sem.run_bind, Result.andThen, mrun_check _ _ hk]
set_option maxRecDepth 100000 in
set_option maxHeartbeats 4000000 in
theorem ddrop_nil (d o : Nat) (k : Int) (w : World) (hd : w.cell? ⟨d, o, none⟩ = some (.map none)) :
    Calls Tryz.prog 99 #[.pointer (some ⟨d, o, none⟩), .int .i64 k] w fun e w' => e = .returned (.bool false) ∧ Mod [] w w' := by
  have hz : ∀ w : World, (zeroValue 210).run Tryz.prog w = .ok (.agg #[.int .i64 0, .int .u64 0, .int .i64 0, .int .u64 0, .int .u64 0, .int .u64 0, .int .u64 0]) w := fun w => by kernel_rfl
  have hlk : ∀ w : World, (Instr.lookup 73 (.map none) (.int .i64 k) true).run Tryz.prog w = .ok (.tuple #[.agg #[.int .i64 0, .int .u64 0, .int .i64 0, .int .u64 0, .int .u64 0, .int .u64 0, .int .u64 0], .bool false]) w := fun w => mrun_look_nil (P := Tryz.prog) Tryz.underlying73 Tryz.underlying3 (hz w)
  have hdel := fun (ty : TypeId) (w : World) => run_delete_nil_int (P := Tryz.prog) (t := 73) (k := 3) (ty := ty) (w := w) Tryz.underlying73 Tryz.underlying3 k
  have hdl := block_lt_of_cell hd
  clear hz
  go_enter Tryz.func99, Tryz.ntmps99
  go_wp2_with fail
  go_ret
  exact ⟨rfl, (Mod.refl [] w).alloc _⟩

theorem upd_eql (k : Nat) (hk : k < 6) : ∀ w : World, (binOp .eql 55 (.agg #[.int .i64 k, .int .u64 0, .int .i64 0]) (.agg #[.int .i64 k, .int .u64 0, .int .i64 0])).run Tryz.prog w = .ok (.bool true) w := by
  have h6 : k = 0 ∨ k = 1 ∨ k = 2 ∨ k = 3 ∨ k = 4 ∨ k = 5 := by omega
  rcases h6 with rfl | rfl | rfl | rfl | rfl | rfl
  all_goals
    intro w
    kernel_rfl
def UpK (w : World) (g : Nat) (k : Nat) : Prop := (w.cell? ⟨g, 0, none⟩ = some (.int .i64 k) ∧ w.cell? ⟨g, 1, none⟩ = some (.int .u64 0) ∧ w.cell? ⟨g, 2, none⟩ = some (.int .i64 0)) ∧ w.frozen? ⟨g, 0, none⟩ = false ∧ w.frozen? ⟨g, 1, none⟩ = false ∧ w.frozen? ⟨g, 2, none⟩ = false
theorem upK_of {w : World} {g k : Nat} (h : w.heap[g]? = some (.cells #[.int .i64 k, .int .u64 0, .int .i64 0] 55 (0, 0))) : UpK w g k :=
  ⟨⟨cell_in h rfl, cell_in h rfl, cell_in h rfl⟩, free_in h, free_in h, free_in h⟩
theorem UpK.mod {a b : World} {g k : Nat} (h : UpK a g k) (m : Mod [] a b) : UpK b g k :=
  have hl : g < a.heap.size := block_lt_of_cell h.1.1
  ⟨⟨m.at h.1.1 (by simp), m.at h.1.2.1 (by simp), m.at h.1.2.2 (by simp)⟩, (m.frozen hl (by simp)).trans h.2.1, (m.frozen hl (by simp)).trans h.2.2.1, (m.frozen hl (by simp)).trans h.2.2.2⟩
theorem upK_set {w : World} {g : Nat} (k : Nat) (h : Zeros w g) : UpK (((w.setCell ⟨g, 0, none⟩ (.int .i64 k)).setCell ⟨g, 1, none⟩ (.int .u64 0)).setCell ⟨g, 2, none⟩ (.int .i64 0)) g k := by
  obtain ⟨⟨a, b, c⟩, f⟩ := h
  refine ⟨⟨?_, ?_, ?_⟩, by simpa only [World.frozen?_setCell] using f⟩
  · rw [cell_set_off _ _ _ _ (by simp), cell_set_off _ _ _ _ (by simp)]
    exact cell_set_same a
  · rw [cell_set_off _ _ _ _ (by simp)]
    exact cell_set_same ((cell_set_off _ _ _ _ (by simp)).trans b)
  · exact cell_set_same ((cell_set_off _ _ _ _ (by simp)).trans ((cell_set_off _ _ _ _ (by simp)).trans c))

set_option maxRecDepth 100000 in
set_option maxHeartbeats 8000000 in
theorem ktake_old {K : KS} {w : World} {G : List Nat} {n k : Nat} (x l : Value) (h : K.At w G n) (ht : Tab w) (hk : k < 6) (hkn : K.knows k) :
    Calls Tryz.prog 48 #[.pointer (some ⟨K.d, 0, none⟩), .agg #[.int .i64 k, .int .u64 0, .int .i64 0], x, l] w fun e w' => e = .returned (.int .i64 0) ∧ Mod [] w w' := by
  have H := Lib.hid h
  have HT := Lib.hid ht
  have HK := Lib.hid (And.intro hk hkn)
  have c0 := h.roll
  have hdl := h.lt
  clear h ht hk hkn
  obtain ⟨d, hd⟩ : ∃ d, K.d = d := ⟨_, rfl⟩
  obtain ⟨r, hr⟩ : ∃ r, K.r = r := ⟨_, rfl⟩
  have HE := Lib.hid (And.intro hd hr)
  rw [hd] at hdl ⊢
  rw [hd, hr] at c0
  have hne : ¬ d = w.heap.size := by omega
  clear hd hr
  go_enter Tryz.func48, Tryz.ntmps48
  go_wp2_with fail
  have HMw := Lib.hid ((Mod.refl [] w).alloc (.cells #[.int .i64 k, .int .u64 0, .int .i64 0] 55))
  have HU := Lib.hid (heap_new w (.cells #[.int .i64 k, .int .u64 0, .int .i64 0] 55))
  have hdw : d < w.heap.size := hdl
  generalize hB : w.heap.size = B at HU ⊢
  generalize w.alloc (.cells #[.int .i64 k, .int .u64 0, .int .i64 0] 55) = W0 at HMw HU ⊢
  replace H := Lib.hid (H.out.same HMw.out)
  replace HT := Lib.hid (HT.out.mod HMw.out (by simp))
  have c1 := H.out.roll
  rw [HE.out.1, HE.out.2] at c1
  have HC := Lib.hid c1
  have hmine := fun (w' : World) (hm : Mod [] W0 w') => kmine (H.out.same hm)
  have hlive := fun (w' : World) (hm : Mod [] W0 w') => clive_is ((H.out.same hm).calm) (HT.out.mod hm (by simp))
  have hget := fun (w' : World) (hm : Mod [] W0 w') => kget (H.out.same hm) HK.out.1 HK.out.2
  have hhear := fun (w' : World) (hm : Mod [] W0 w') => khear_old (H.out.same hm) HK.out.1 HK.out.2
  rw [HE.out.2] at hmine hlive hget hhear
  have HMI := Lib.hid hmine
  have HLI := Lib.hid hlive
  have HGE := Lib.hid hget
  have HHE := Lib.hid hhear
  clear c0 hdl hne hmine hlive hget hhear
  have HM0 := Lib.hid (Mod.refl [] W0)
  have hd0 : d < W0.heap.size := block_lt_of_cell c1
  have hd1 : d < W0.heap.size + 1 := by omega
  have hne0 : ¬ d = W0.heap.size := by omega
  go_cut [9] (fun s9 wx => s9 = .int .u64 K.has ∧ Mod [] W0 wx)
  case first =>
    -- <slow>
    go_region_with (first | (go_at_call 19; refine (HLI.out _ (by repeat (first | exact HM6.out | exact HM5.out | exact HM0.out | refine Mod.drew ?_ | refine Mod.alloc ?_ _))).mono ?_; rintro e w5 ⟨rfl, hM5⟩; have HM5 := Lib.hid (show Mod [] W0 w5 from Mod.trans (by repeat (first | exact HM6.out | exact HM5.out | exact HM0.out | refine Mod.drew ?_ | refine Mod.alloc ?_ _)) hM5); have hc5 := HM5.out.at HC.out (by simp); have hd5 := block_lt_of_cell hc5; have hn5 := Nat.ne_of_lt hd5; (try (have r5 := row_keep hM5 (heap_new_drew W0 (.cells #[.int .i64 0, .int .u64 0, .int .i64 0] 55)); have r5z := zeros_of r5; unfold Zeros at r5z)); clear hM5) | (go_at_call 47; refine (HMI.out _ (by repeat (first | exact HM6.out | exact HM5.out | exact HM0.out | refine Mod.drew ?_ | refine Mod.alloc ?_ _))).mono ?_; rintro e w6 ⟨rfl, hM6⟩; have HM6 := Lib.hid (show Mod [] W0 w6 from Mod.trans (by repeat (first | exact HM6.out | exact HM5.out | exact HM0.out | refine Mod.drew ?_ | refine Mod.alloc ?_ _)) hM6); have hc6 := HM6.out.at HC.out (by simp); have hd6 := block_lt_of_cell hc6; have hn6 := Nat.ne_of_lt hd6; (try (have r6 := row_keep hM6 r5; have r6z := zeros_of r6; unfold Zeros at r6z)); (try (have q6 := row_keep hM6 (heap_new w5 (.cells #[.int .i64 0, .int .u64 0, .int .i64 0] 55)); have q6z := zeros_of q6; unfold Zeros at q6z)); clear hM6))
    all_goals
      go_wp2_with fail
      go_meet
      case rel => first | exact ⟨rfl, HM6.out.alloc _⟩ | exact ⟨rfl, ((HM6.out.setCell (.inr HM5.out.size) _).setCell (.inr HM5.out.size) _).setCell (.inr HM5.out.size) _⟩ | exact ⟨rfl, ((HM6.out.setCell (.inr HM0.out.size) _).setCell (.inr HM0.out.size) _).setCell (.inr HM0.out.size) _⟩
    -- </slow>
  case rest =>
    obtain ⟨rfl, hcut⟩ := hcut
    have HMc := Lib.hid (show Mod [] W0 wc from hcut)
    have hBl : B < W0.heap.size := (Array.getElem?_eq_some_iff.1 HU.out).1
    have HUc := Lib.hid (row_keep HMc.out HU.out)
    have uc := upK_of HUc.out
    unfold UpK at uc
    have cc := HMc.out.at HC.out (by simp)
    have bc0 : B < wc.heap.size := (Array.getElem?_eq_some_iff.1 HUc.out).1
    have bc1 : B < wc.heap.size + 1 := by omega
    have bcn : ¬ B = wc.heap.size := by omega
    have dc0 : d < wc.heap.size := block_lt_of_cell cc
    have dc1 : d < wc.heap.size + 1 := by omega
    have dcn : ¬ d = wc.heap.size := by omega
    clear hcut
    go_wp2_with fail
    go_cut [11, 12] (fun s11 s12 wx => s12 = .bool true ∧ ∃ g, s11 = .pointer (some ⟨g, 0, none⟩) ∧ UpK wx g k ∧ Mod [] W0 wx)
    case first =>
      -- <slow>
      go_region_with (go_at_call 49; refine (HGE.out _ (by repeat (first | exact HMc.out | refine Mod.drew ?_ | refine Mod.alloc ?_ _))).mono ?_; rintro e w6 ⟨rfl, hM6⟩; have HM6 := Lib.hid (show Mod [] W0 w6 from Mod.trans (by repeat (first | exact HMc.out | refine Mod.drew ?_ | refine Mod.alloc ?_ _)) hM6); have hc6 := HM6.out.at HC.out (by simp); have hd6 := block_lt_of_cell hc6; have hn6 := Nat.ne_of_lt hd6; (try (have r6 := row_keep hM6 (heap_new_drew wc (.cells #[.int .i64 0, .int .u64 0, .int .i64 0] 55)); have r6z := zeros_of r6; have HR6 := Lib.hid r6z; unfold Zeros at r6z)); clear hM6)
      all_goals
        go_wp2_with fail
        go_meet
        case rel => first | exact ⟨rfl, _, rfl, upK_of (heap_new _ _), HM6.out.alloc _⟩ | exact ⟨rfl, _, rfl, upK_set k HR6.out, ((HM6.out.setCell (.inr HMc.out.size) _).setCell (.inr HMc.out.size) _).setCell (.inr HMc.out.size) _⟩
      -- </slow>
    case rest =>
      obtain ⟨rfl, g, rfl, hz, hMd⟩ := hcut
      rename_i wo _ _
      clear cc bc0 bc1 bcn dc0 dc1 dcn uc HUc
      rename_i wd
      have HMd := Lib.hid hMd
      have HUc := Lib.hid (row_keep HMd.out HU.out)
      have uc := upK_of HUc.out
      have HZ := Lib.hid hz
      unfold UpK at uc hz
      have cc := HMd.out.at HC.out (by simp)
      have heq := upd_eql k HK.out.1
      clear hMd
      go_wp2_with fail
      go_cut [13, 14] (fun s13 s14 wx => s13 = .bool false ∧ s14 = .int .i64 70 ∧ Mod [] W0 wx ∧ UpK wx g k ∧ UpK wx B k)
      case first =>
        -- <slow>
        go_region_with (go_at_call 97; refine (HHE.out _ (by repeat (first | exact HMd.out | refine Mod.drew ?_ | refine Mod.alloc ?_ _))).mono ?_; rintro e w7 ⟨rfl, hM7⟩; have HM7 := Lib.hid hM7; clear hM7)
        all_goals
          go_wp2_with fail
          go_meet
          case rel => exact ⟨rfl, rfl, HMd.out.drew.trans HM7.out, HZ.out.mod ((Mod.refl [] _).drew.trans HM7.out), (upK_of HUc.out).mod ((Mod.refl [] _).drew.trans HM7.out)⟩
        -- </slow>
      case rest =>
        obtain ⟨rfl, rfl, hMe, hz2, hz3⟩ := hcut
        have HMe := Lib.hid hMe
        clear uc hz cc HUc HZ hMe
        unfold UpK at hz2 hz3
        go_wp2
        go_ret
        exact ⟨rfl, HMw.out.trans HMe.out⟩

end Go.Proofs.YtaaaiggbnkeblaaGreatDoor
