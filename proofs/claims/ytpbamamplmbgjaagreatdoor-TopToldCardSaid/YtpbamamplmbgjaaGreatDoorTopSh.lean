/-
  The walks of cloud.Trace, and of conventicletop.shown.
-/
import Derived.Test.YtpbamamplmbgjaaGreatDoorTopCn
import Derived.Test.YtpbamamplmbgjaaGreatDoorTopTx
import Derived.Lib.SliceRun
namespace Go.Proofs.YtpbamamplmbgjaaGreatDoor
set_option linter.unusedSimpArgs false
set_option linter.unusedVariables false
open Go.RowKit

theorem eflat_get (es : List Ent) (i : Nat) (e : Ent) (h : es[i]? = some e) (j : Nat) (v : Value) (hv : (ecells e)[j]? = some v) : (eflat es)[i * 9 + j]? = some v := by
  induction es generalizing i with
  | nil => simp at h
  | cons m' t ih =>
    show (ecells m' ++ eflat t)[i * 9 + j]? = some v
    have hj : j < 9 := (List.getElem?_eq_some_iff.1 hv).1
    cases i with
    | zero =>
      obtain rfl : m' = e := by simpa using h
      rw [List.getElem?_append_left (by simp [ecells]; omega)]
      simpa using hv
    | succ i =>
      rw [List.getElem?_append_right (by simp [ecells]; omega)]
      have h2 : (i + 1) * 9 + j - (ecells m').length = i * 9 + j := by simp [ecells]; omega
      rw [h2]
      exact ih i (by simpa using h)
theorem rdes_of {w : World} {B g n cap : Nat} {e : TypeId} {es : List Ent} (h : w.ownsRow B e 9 (.slice (some ⟨g, 0, none⟩) n cap) n (eflat es)) : RdEs w g es := fun i x hi j v hj => ownsRow_cells h _ _ (eflat_get es i x hi j v hj)
theorem eflat_one (es : List Ent) : ∀ u ∈ eflat es, u.oneCell' = true := by
  intro u hu
  unfold eflat at hu
  rw [List.mem_flatMap] at hu
  obtain ⟨e, _, h⟩ := hu
  exact ecells_one e u h

def TracePost (w : World) (es : List Ent) (e : Ending) (w' : World) : Prop := ∃ g cap, e = .returned (.slice (some ⟨g, 0, none⟩) es.length cap) ∧ RdEs w' g es ∧ Mod [] w w'

set_option maxRecDepth 100000 in
set_option maxHeartbeats 4000000 in
theorem cclone (B g k : Nat) (es : List Ent) (w : World) (h : w.ownsRow B 197 9 (.slice (some ⟨g, 0, none⟩) es.length k) es.length (eflat es)) (h0 : 0 < es.length) (hl : es.length ≤ 1000) :
    Calls Tryz.prog 97 #[.slice (some ⟨g, 0, none⟩) es.length k] w (TracePost w es) := by
  have heq := fun w => Lib.run_eql_slice_nil (P := Tryz.prog) w 112 197 (some ⟨g, 0, none⟩) es.length k 0 0 Tryz.underlying112
  simp at heq
  obtain ⟨ie, hie, hiz, his, hib⟩ := infoCEntry
  have HH := Lib.hid h
  have HL := Lib.hid (And.intro h0 hl)
  clear h h0 hl
  go_enter Tryz.func97, Tryz.ntmps97
  have hown : (w.alloc (.cells #[] 197)).ownsRow w.heap.size 197 9 (.slice (some ⟨w.heap.size, 0, none⟩) 0 0) 0 [] := ⟨rfl, .inr ⟨w.heap.size, 0, #[], rfl, Nat.le_refl _, heap_new _ _, Nat.le_refl _, by simp, rfl, rfl⟩⟩
  have hnews : ∀ j u, (eflat es)[j]? = some u → (w.alloc (.cells #[] 197)).cell? ((⟨g, 0, none⟩ : Addr).add j) = some u := fun j u hu => by
    rw [add_lit, Nat.zero_add]
    exact ((Mod.refl [] w).alloc _).at (ownsRow_cells HH.out j u hu) (by simp)
  have hlen : (eflat es).length = es.length * 9 := eflat_len es
  have hmx : 0 + es.length ≤ maxLen := by have := HL.out; unfold maxLen; omega
  have hby : (0 + es.length) * ie.bytes ≤ 140737488355328 := by
    have := Nat.mul_le_mul (show 0 + es.length ≤ 1000 by have := HL.out; omega) hib
    omega
  have hbs : w.heap.size ≤ (w.alloc (.cells #[] 197)).heap.size := by simp
  have HAR := Lib.hid (And.intro hown (And.intro hnews (And.intro hlen (And.intro hmx (And.intro hby hbs)))))
  have HON := Lib.hid (eflat_one es)
  clear hown hnews hlen hmx hby hbs hib
  go_wp2_with (at_builtin; with_reducible refine wpList_append_lies _ rfl (.tmp 5) (.tmp 6) 112 rfl w.heap.size 197 ie _ 9 ie.bytes Tryz.underlying112 hie hiz his rfl rfl (by decide) (.slice (some ⟨w.heap.size, 0, none⟩) 0 0) 0 [] rfl HAR.out.1 ⟨g, 0, none⟩ es.length k (eflat es) rfl HAR.out.2.2.1 HAR.out.2.1 HON.out HL.out.1 HAR.out.2.2.2.1 HAR.out.2.2.2.2.1 HAR.out.2.2.2.2.2 _ rfl ?_; intro g' cap w2 hown hgrow hat hlt2)
  have hM : Mod [] w w2 := Mod.grownRow ((Mod.refl [] w).alloc _) hgrow (fun b hb => .inr (by simp [Value.ownBlock] at hb; omega))
  have HF := Lib.hid (And.intro hown hM)
  clear hown hgrow hat hlt2 hM
  go_wp2
  go_ret
  obtain ⟨hown, hM⟩ := HF.out
  have e0 : (0 + es.length) = es.length := Nat.zero_add _
  rw [e0] at hown
  exact ⟨g', cap, rfl, rdes_of hown, hM⟩

set_option maxRecDepth 100000 in
set_option maxHeartbeats 4000000 in
theorem ctrace (c N B g k : Nat) (l : Value) (es : List Ent) (w : World) (hc : CloudAt w c N l (.slice (some ⟨g, 0, none⟩) es.length k)) (h : w.ownsRow B 197 9 (.slice (some ⟨g, 0, none⟩) es.length k) es.length (eflat es)) (h0 : 0 < es.length) (hl : es.length ≤ 1000) :
    Calls Tryz.prog 38 #[.pointer (some ⟨c, 0, none⟩)] w (TracePost w es) := by
  have x68 := hc.trace
  have HC := Lib.hid (cclone B g k es w h h0 hl)
  clear h h0 hl hc
  go_enter Tryz.func38, Tryz.ntmps38
  go_wp2_with fail
  refine HC.out.mono ?_
  rintro e w1 ⟨g1, k1, rfl, hr, hM⟩
  have HF := Lib.hid (And.intro hr hM)
  clear hr hM
  go_wp2
  go_ret
  exact ⟨g1, k1, rfl, HF.out.1, HF.out.2⟩

/-- The one text that is sent. -/
def xText : ByteArray := ⟨#[120]⟩
def e1 : Ent := ⟨0, false, 1, 1, 1, 0, 0, 0, ⟨#[]⟩⟩
def e2 : Ent := ⟨0, true, 0, 1, 1, 0, 0, 1, xText⟩
def e3 : Ent := ⟨0, false, 2, 1, 1, 1, 0, 1, xText⟩
theorem texts_three : textsOf 0 [e1, e2, e3] = [xText] := rfl

theorem CloudNew.env {w : World} {c N D K r S H T L R C m B sz : Nat} {l tr : Value} (h : CloudNew w c N D K r S H T L R C m B sz l tr) : CloudEnv w c N D K S B l tr [e1] := by
  have hs := h.alone.sep
  have h1 : N ≠ K ∧ S ≠ K := by simp [hs]
  have h2 := h.low
  have h3 := h.high
  exact ⟨h.cloud, h.own, by simp, by omega, by omega⟩

theorem CloudNew.sent {w w' : World} {c N D K r S H T L R C m B sz : Nat} {l tr tr' : Value} (h : CloudNew w c N D K r S H T L R C m B sz l tr) (hc : CloudAt w' c N l tr') (ho : w'.ownsRow B 197 9 tr' 2 (eflat [e1, e2])) (hn : NodeAt w' N D K (some ⟨S, 0, none⟩) (.slice none 0 0) 1) (hk : DeskAt w' K 0 1 [(0, 1, xText)])
    (hm : Mod (c :: K :: N :: tr.ownBlock.toList) w w') : CloudAlone w' c N D K r S H T L R C m B 0 0 sz l tr' [e1, e2] xText := by
  have hs := h.alone.sep
  have h2 := h.low
  have h3 := h.high
  have hno : ∀ x, x < B → x ∉ tr.ownBlock.toList := fun x hx hb => by
    rw [Option.mem_toList] at hb
    have := (ownsRow_ge h.own x hb).1
    omega
  have hX : ∀ x, c ≠ x → x ≠ K → x ≠ N → x < B → x ∉ c :: K :: N :: tr.ownBlock.toList := fun x h1 h2 h3 h4 hb => by
    simp only [List.mem_cons] at hb
    rcases hb with hb | hb | hb | hb
    · exact h1 hb.symm
    · exact h2 hb
    · exact h3 hb
    · exact hno x h4 hb
  have h0 : c ≠ 1 := fun e => by
    have h1 := h.alone.tab.2 0 0 rfl
    have h5 := h.cloud.c0
    rw [e] at h5
    rw [h1] at h5
    cases h5
  have hB0 : 1 < B := by
    have h5 : N ≠ 1 ∧ D ≠ 1 ∧ N ≠ D := by simp [hs]
    omega
  refine ⟨hc, ho, by simp, h.alone.keepN hn hk hm ⟨⟨hX D ?_ ?_ ?_ ?_, hX r ?_ ?_ ?_ ?_, hX 1 h0 ?_ ?_ hB0, hX S ?_ ?_ ?_ ?_, hX H ?_ ?_ ?_ ?_, hX T ?_ ?_ ?_ ?_, hX L ?_ ?_ ?_ ?_, hX R ?_ ?_ ?_ ?_⟩, hX C ?_ ?_ ?_ ?_, hX m ?_ ?_ ?_ ?_⟩, h2.1, ⟨h3.1.1, Nat.le_trans h3.1.2 hm.size⟩, by decide, by decide⟩
  all_goals first | (simp [hs]; done) | omega

set_option maxRecDepth 100000 in
set_option maxHeartbeats 4000000 in
theorem shown_is (w : World) (ht : Tab w) : Calls Tryz.prog 8 #[] w (TruePost w) := by
  have hpn : ∀ (a : Addr) (w : World), (binOp .eql 104 (.pointer (some a)) (.pointer none)).run Tryz.prog w = .ok (.bool false) w := fun a w => by kernel_rfl
  have hpm : ∀ (a : Addr) (w : World), (binOp .eql 106 (.pointer (some a)) (.pointer none)).run Tryz.prog w = .ok (.bool false) w := fun a w => by kernel_rfl
  have HT := Lib.hid ht
  clear ht
  go_enter Tryz.func8, Tryz.ntmps8
  go_wp2_with fail
  refine (cnew0 _ HT.out).mono ?_
  rintro e w1 ⟨c, N, D, K, r, S, H, T, L, R, C, m, B, sz, l, tr, rfl, hnew, hcw, hM1⟩
  have HN := Lib.hid hnew
  have HCW := Lib.hid hcw
  have HM := Lib.hid hM1
  clear hnew hcw hM1
  go_wp2_with fail
  refine (cnode0 c N l tr _ HN.out.cloud).mono ?_
  rintro e w2 ⟨rfl, hw2⟩
  have hw1 := hw2.symm
  clear hw2
  subst hw1
  go_wp2_with fail
  refine (csend0 c N D K S B l tr 0 [] [e1] xText _ HN.out.env HN.out.alone.node HN.out.alone.desk ⟨HN.out.alone.sit.2.1 0 _ rfl, HN.out.alone.sit.2.1 1 _ rfl⟩ (by decide)).mono ?_
  rintro e w3 ⟨rfl, tr3, hc3, ho3, hn3, hk3, hM3⟩
  have HA := Lib.hid (HN.out.sent hc3 ho3 hn3 hk3 hM3)
  replace HM := Lib.hid (HM.out.step hM3 (fun x hx => .inr (by
    have h1 := HCW.out
    have h2 := HN.out.low
    have h3 := HN.out.high
    simp only [List.mem_cons, Option.mem_toList] at hx
    rcases hx with h | h | h | h
    · omega
    · omega
    · omega
    · have := (ownsRow_ge HN.out.own x h).1
      omega)))
  clear hc3 ho3 hn3 hk3 hM3
  go_wp2_with fail
  refine (cround0 c N D K r S H T L R C m B 0 0 sz l tr3 [e1, e2] xText _ HA.out).mono ?_
  rintro e w4 ⟨rfl, tr4, hc4, ho4, hM4⟩
  obtain ⟨g4, k4, rfl⟩ := ownsRow_succ ho4
  replace HM := Lib.hid (HM.out.step hM4 (fun x hx => .inr (by
    have h1 := HCW.out
    have h2 := HN.out.low
    have h3 := HN.out.high
    rcases List.mem_append.1 hx with h | h
    · simp at h
      omega
    · rw [Option.mem_toList] at h
      have := (ownsRow_ge HA.out.own x h).1
      omega)))
  have HC4 := Lib.hid (And.intro hc4 ho4)
  clear hc4 ho4 hM4
  go_wp2_with fail
  refine (ctrace c N B g4 k4 l [e1, e2, e3] _ HC4.out.1 HC4.out.2 (by decide) (by decide)).mono ?_
  rintro e w5 ⟨g5, k5, rfl, hr5, hM5⟩
  replace HM := Lib.hid (HM.out.trans hM5)
  have HR5 := Lib.hid hr5
  clear hr5 hM5
  go_wp2_with fail
  refine (theirs_any g5 k5 [e1, e2, e3] _ HR5.out (by decide)).mono ?_
  rintro e w6 ⟨u, rfl, ho6, hM6⟩
  obtain ⟨g6, k6, rfl⟩ := ownsRow_succ ho6
  replace HM := Lib.hid (HM.out.trans hM6)
  have HR6 := Lib.hid (rdes_of ho6)
  clear ho6 hM6
  go_wp2_with fail
  refine (texts_any g6 k6 0 [e1, e2, e3] _ HR6.out (by decide)).mono ?_
  rintro e w7 ⟨u, rfl, ho7, hM7⟩
  rw [texts_three] at ho7
  obtain ⟨g7, k7, rfl⟩ := ownsRow_succ ho7
  replace HM := Lib.hid (HM.out.trans hM7)
  have x7 : w7.cell? ⟨g7, 0, none⟩ = some (.string xText) := ownsRow_cells ho7 0 _ rfl
  have X7 := Lib.hid x7
  clear ho7 hM7 x7
  go_wp2_with fail
  refine (rsame_one ⟨g7, 0, none⟩ ⟨w7.heap.size, 0, none⟩ _ _ xText _ (((Mod.refl [] w7).alloc _).at X7.out (by simp)) (cell_in (heap_new _ _) rfl)).mono ?_
  rintro e w8 ⟨rfl, hM8⟩
  have HM8 := Lib.hid (HM.out.trans (((Mod.refl [] w7).alloc _).trans hM8))
  clear hM8
  go_wp2
  go_ret
  exact ⟨rfl, HM8.out⟩

end Go.Proofs.YtpbamamplmbgjaaGreatDoor
