/-
  The walk of a cloud's Send, of what it does with the node.
-/
import Derived.Test.YtaaaiggbnkeblaaGreatDoorMTopZ
import Derived.Test.YtaaaiggbnkeblaaGreatDoorMTopPo
namespace Go.Proofs.YtaaaiggbnkeblaaGreatDoor
set_option linter.unusedSimpArgs false
set_option linter.unusedVariables false
open Go.RowKit

def Send1Post (w : World) (c N D K S : Nat) (l tr ev : Value) (num : Int) (Q : List M) (B : Nat) (es : List Ent) (t : ByteArray) (e : Ending) (w' : World) : Prop :=
  e = .returned (.int .i64 0) ∧ ∃ tr', CloudAt w' c N l tr' ∧ w'.ownsRow B 164 9 tr' (es.length + 1) (eflat (es ++ [⟨0, true, 0, 1, 1, 0, 0, num + 1, t⟩])) ∧ NodeAt w' N D K (some ⟨S, 0, none⟩) ev 1 ∧ DeskAt w' K 0 (num + 1) (Q ++ [(0, num + 1, t)]) ∧ Mod (c :: K :: tr.ownBlock.toList) w w'

set_option maxRecDepth 100000 in
set_option maxHeartbeats 8000000 in
theorem csend1 (c N D K S pt pc pn B : Nat) (l tr ev : Value) (num : Int) (Q : List M) (es : List Ent) (t : ByteArray) (w : World) (h : CloudAt w c N l tr) (hn : NodeAt w N D K (some ⟨S, 0, none⟩) ev 1) (hk : DeskAt w K 0 num Q)
    (hs : w.cell? ⟨S, 0, none⟩ = some (.int .u64 1) ∧ w.cell? ⟨S, 1, none⟩ = some (.int .u64 1)) (hb : w.cell? ⟨pt, 0, none⟩ = some (.string t) ∧ w.cell? ⟨pc, 0, none⟩ = some (.pointer (some ⟨c, 0, none⟩)) ∧ w.cell? ⟨pn, 0, none⟩ = some (.int .i64 0))
    (he : sendErr num Q.length t = 0) (htr : w.ownsRow B 164 9 tr es.length (eflat es)) (hl : es.length ≤ 100) (hB : c < B ∧ N < B ∧ S < B ∧ K < B ∧ B ≤ w.heap.size) (hd : c ≠ K ∧ c ≠ N ∧ c ≠ S ∧ N ≠ K ∧ S ≠ K) (hp : (pc ≠ c ∧ pn ≠ c) ∧ (pc ≠ K ∧ pn ≠ K) ∧ ∀ b, tr.ownBlock = some b → b ≠ pc ∧ b ≠ pn) :
    Calls Tryz.prog 71 #[.pointer (some ⟨N, 0, none⟩), .pointer (some ⟨pt, 0, none⟩), .pointer (some ⟨pc, 0, none⟩), .pointer (some ⟨pn, 0, none⟩)] w (Send1Post w c N D K S l tr ev num Q B es t) := by
  obtain ⟨ie, hie, hiz, his, hib⟩ := infoCEntry
  have HC := Lib.hid h
  have HN := Lib.hid hn
  have HK := Lib.hid hk
  have HS := Lib.hid hs
  have HE := Lib.hid he
  have HTR := Lib.hid htr
  have HB := Lib.hid hB
  have HD := Lib.hid hd
  have HP := Lib.hid hp
  have HBX := Lib.hid hb.2
  have t0 := hb.1
  clear h hn hk hs hb he htr hB hd hp
  go_enter Tryz.func71, Tryz.ntmps71
  go_wp2_with fail
  refine (nsend_ok N D K S ev 1 0 num Q t _ HN.out HK.out HE.out).mono ?_
  rintro e w1 ⟨rfl, hM1, hk1⟩
  replace HC := Lib.hid (HC.out.mod hM1 (by have := HD.out.1; simpa using this))
  replace HN := Lib.hid (HN.out.mod hM1 (by have := HD.out.2.2.2.1; simpa using this))
  replace HK := Lib.hid hk1
  replace HS := Lib.hid (And.intro (hM1.at HS.out.1 (by have := HD.out.2.2.2.2; simpa using this)) (hM1.at HS.out.2 (by have := HD.out.2.2.2.2; simpa using this)))
  replace HBX := Lib.hid (And.intro (hM1.at HBX.out.1 (by have := HP.out.2.1.1; simpa using this)) (hM1.at HBX.out.2 (by have := HP.out.2.1.2; simpa using this)))
  replace HTR := Lib.hid (ownsRow_mod HTR.out hM1 (fun b hb => by have := (ownsRow_ge HTR.out b hb).1; have := HB.out; simp; omega))
  have HM := Lib.hid hM1
  clear hM1 hk1 t0
  simp only [mval, mcells]
  go_wp2_with fail
  have hr6 := heap_new w1 (.cells #[.int .i64 0, .int .u64 (num + 1), .string t] 156)
  have hm6 := (Mod.refl [] w1).alloc (.cells #[.int .i64 0, .int .u64 (num + 1), .string t] 156)
  replace HC := Lib.hid (HC.out.mod hm6 (by simp))
  replace HN := Lib.hid (HN.out.mod hm6 (by simp))
  replace HK := Lib.hid (HK.out.mod hm6 (by simp))
  replace HS := Lib.hid (And.intro (hm6.at HS.out.1 (by simp)) (hm6.at HS.out.2 (by simp)))
  replace HBX := Lib.hid (And.intro (hm6.at HBX.out.1 (by simp)) (hm6.at HBX.out.2 (by simp)))
  have HO6 := Lib.hid (show (∀ b, tr.ownBlock = some b → b < w1.heap.size) ∧ c < w1.heap.size from ⟨fun b hb => (ownsRow_ge HTR.out b hb).2, by have := HM.out.size; have := HB.out; omega⟩)
  replace HTR := Lib.hid (ownsRow_mod HTR.out hm6 (by simp))
  replace HM := Lib.hid (HM.out.trans (hm6.wide (by simp)))
  generalize w1.alloc (.cells #[.int .i64 0, .int .u64 (num + 1), .string t] 156) = w2 at hr6 HC HN HK HS HBX HTR HM ⊢
  generalize w1.heap.size = b6 at hr6 HO6 ⊢
  have HR6 := Lib.hid hr6
  clear hr6 hm6
  refine (nview_in N D K S ev 1 1 1 _ HN.out HS.out.1 HS.out.2).mono ?_
  rintro e w3 ⟨rfl, hM3⟩
  replace HC := Lib.hid (HC.out.mod hM3 (by simp))
  replace HN := Lib.hid (HN.out.mod hM3 (by simp))
  replace HK := Lib.hid (HK.out.mod hM3 (by simp))
  replace HBX := Lib.hid (And.intro (hM3.at HBX.out.1 (by simp)) (hM3.at HBX.out.2 (by simp)))
  replace HTR := Lib.hid (ownsRow_mod HTR.out hM3 (by simp))
  replace HR6 := Lib.hid (row_keep hM3 HR6.out)
  replace HM := Lib.hid (HM.out.trans (hM3.wide (by simp)))
  clear hM3 HS
  go_wp2_with fail
  have hr8 := heap_new w3 (.cells #[.int .u64 1, .int .u64 1] 25)
  have hm8 := (Mod.refl [] w3).alloc (.cells #[.int .u64 1, .int .u64 1] 25)
  replace HC := Lib.hid (HC.out.mod hm8 (by simp))
  replace HN := Lib.hid (HN.out.mod hm8 (by simp))
  replace HK := Lib.hid (HK.out.mod hm8 (by simp))
  replace HBX := Lib.hid (And.intro (hm8.at HBX.out.1 (by simp)) (hm8.at HBX.out.2 (by simp)))
  replace HR6 := Lib.hid (row_keep hm8 HR6.out)
  have HO8 := Lib.hid (show (∀ b, tr.ownBlock = some b → b < w3.heap.size) ∧ c < w3.heap.size from ⟨fun b hb => (ownsRow_ge HTR.out b hb).2, by have := HM.out.size; have := HB.out; omega⟩)
  replace HTR := Lib.hid (ownsRow_mod HTR.out hm8 (by simp))
  replace HM := Lib.hid (HM.out.trans (hm8.wide (by simp)))
  generalize w3.alloc (.cells #[.int .u64 1, .int .u64 1] 25) = W at hr8 HC HN HK HBX HTR HR6 HM ⊢
  generalize w3.heap.size = b8 at hr8 HO8 ⊢
  have HR8 := Lib.hid hr8
  clear hr8 hm8
  have hob : ∀ b, tr.ownBlock = some b → b ≠ pc ∧ b ≠ pn ∧ b ≠ b6 ∧ b ≠ b8 ∧ b ≠ c ∧ b ≠ N ∧ b ≠ K := fun b hb => by
    have h1 := HP.out.2.2 b hb
    have h2 := HO6.out.1 b hb
    have h3 := HO8.out.1 b hb
    have h4 := (ownsRow_ge HTR.out b hb).1
    have h5 := HB.out
    omega
  have hno : ∀ x, (∀ b, tr.ownBlock = some b → b ≠ x) → x ∉ tr.ownBlock.toList := fun x hx hb => by
    rw [Option.mem_toList] at hb
    exact hx x hb rfl
  have HNO := Lib.hid (show (pc ∉ tr.ownBlock.toList ∧ pn ∉ tr.ownBlock.toList ∧ b6 ∉ tr.ownBlock.toList ∧ b8 ∉ tr.ownBlock.toList) ∧ c ∉ tr.ownBlock.toList ∧ N ∉ tr.ownBlock.toList ∧ K ∉ tr.ownBlock.toList from
    ⟨⟨hno pc (fun b hb => (hob b hb).1), hno pn (fun b hb => (hob b hb).2.1), hno b6 (fun b hb => (hob b hb).2.2.1), hno b8 (fun b hb => (hob b hb).2.2.2.1)⟩, hno c (fun b hb => (hob b hb).2.2.2.2.1), hno N (fun b hb => (hob b hb).2.2.2.2.2.1), hno K (fun b hb => (hob b hb).2.2.2.2.2.2)⟩)
  have HCN := Lib.hid (show c ≠ pc ∧ c ≠ pn ∧ c ≠ b6 ∧ c ≠ b8 from by
    have h1 := HP.out.1
    have h2 := HO6.out.2
    have h3 := HO8.out.2
    omega)
  clear hob hno
  have hk : ∀ w', Mod tr.ownBlock.toList W w' → w'.cell? ⟨pc, 0, none⟩ = some (.pointer (some ⟨c, 0, none⟩)) ∧ w'.cell? ⟨pn, 0, none⟩ = some (.int .i64 0) ∧ w'.cell? ⟨b8, 0, none⟩ = some (.int .u64 1) ∧ w'.cell? ⟨b8, 1, none⟩ = some (.int .u64 1) ∧ w'.cell? ⟨b6, 0, none⟩ = some (.int .i64 0) ∧ w'.cell? ⟨b6, 1, none⟩ = some (.int .u64 (num + 1)) ∧ w'.cell? ⟨b6, 2, none⟩ = some (.string t) := fun w' hm =>
    ⟨hm.at HBX.out.1 HNO.out.1.1, hm.at HBX.out.2 HNO.out.1.2.1, hm.at (cell_in HR8.out (j := 0) rfl) HNO.out.1.2.2.2, hm.at (cell_in HR8.out (j := 1) rfl) HNO.out.1.2.2.2, hm.at (cell_in HR6.out (j := 0) rfl) HNO.out.1.2.2.1, hm.at (cell_in HR6.out (j := 1) rfl) HNO.out.1.2.2.1, hm.at (cell_in HR6.out (j := 2) rfl) HNO.out.1.2.2.1⟩
  have KEEP := Lib.hid hk
  clear hk
  have hev1 : ((W.drew).alloc (.cells #[.int .i64 0, .bool true, .int .i64 0, .int .u64 1, .int .u64 1, .int .u64 0, .int .i64 0, .int .u64 (num + 1), .string t] 164)).heap[W.heap.size]? = some (.cells #[.int .i64 0, .bool true, .int .i64 0, .int .u64 1, .int .u64 1, .int .u64 0, .int .i64 0, .int .u64 (num + 1), .string t] 164 (0, 0)) := heap_new _ _
  have HEV := Lib.hid (World.news_of_block hev1)
  have hown2 := ownsRow_mod HTR.out ((Mod.refl [] W).drew.alloc (.cells #[.int .i64 0, .bool true, .int .i64 0, .int .u64 1, .int .u64 1, .int .u64 0, .int .i64 0, .int .u64 (num + 1), .string t] 164)) (by simp)
  have hby : (es.length + 1) * ie.bytes ≤ 140737488355328 := by
    have := Nat.mul_le_mul (show es.length + 1 ≤ 101 by omega) hib
    omega
  have hmx : es.length + 1 ≤ maxLen := by unfold maxLen; omega
  have hbs : B ≤ ((W.drew).alloc (.cells #[.int .i64 0, .bool true, .int .i64 0, .int .u64 1, .int .u64 1, .int .u64 0, .int .i64 0, .int .u64 (num + 1), .string t] 164)).heap.size := by
    have := HM.out.size
    have := HB.out
    simp
    omega
  have HAR := Lib.hid (And.intro hby (And.intro hmx (And.intro hbs hown2)))
  clear hev1 hby hmx hbs hown2 hib
  have x68 := HC.out.trace
  have f68 := HC.out.free 68
  have hcl := HC.out.lt
  refine wp_region_held_drew (S := fun w' => w'.cell? ⟨pc, 0, none⟩ = some (.pointer (some ⟨c, 0, none⟩)) ∧ w'.cell? ⟨pn, 0, none⟩ = some (.int .i64 0) ∧ w'.cell? ⟨b8, 0, none⟩ = some (.int .u64 1) ∧ w'.cell? ⟨b8, 1, none⟩ = some (.int .u64 1) ∧ w'.cell? ⟨b6, 0, none⟩ = some (.int .i64 0) ∧ w'.cell? ⟨b6, 1, none⟩ = some (.int .u64 (num + 1)) ∧ w'.cell? ⟨b6, 2, none⟩ = some (.string t)) (by kernel_rfl) (by exact KEEP.out _ (Mod.refl _ _).drew) (fun hHeld => ?_)
  refine wpAnyH_take (i := 0) (oi := _) (v := ?_) rfl (by kernel_rfl) (by kernel_rfl) (by kernel_rfl) (fun _ _ _ h => h) (Or.inl ⟨by rfl, ?_⟩) (by assumption) ?_
  rotate_left
  · intro w hSw
    (try dsimp only at hSw)
    go_simp
    try with_reducible rfl
  try simp only [Act.put, List.setIfInBounds_toArray, List.set_cons_zero, List.set_cons_succ]
  refine wpAnyH_take (i := 1) (oi := _) (v := ?_) rfl (by kernel_rfl) (by kernel_rfl) (by kernel_rfl) (fun _ _ _ h => h) (Or.inl ⟨by rfl, ?_⟩) (by assumption) ?_
  rotate_left
  · intro w hSw
    (try dsimp only at hSw)
    go_simp
    try with_reducible rfl
  try simp only [Act.put, List.setIfInBounds_toArray, List.set_cons_zero, List.set_cons_succ]
  refine wpAnyH_take (i := 2) (oi := _) (v := ?_) rfl (by kernel_rfl) (by kernel_rfl) (by kernel_rfl) (fun _ _ _ h => h) (Or.inl ⟨by rfl, ?_⟩) (by assumption) ?_
  rotate_left
  · intro w hSw
    (try dsimp only at hSw)
    go_simp
    try with_reducible rfl
  try simp only [Act.put, List.setIfInBounds_toArray, List.set_cons_zero, List.set_cons_succ]
  refine wpAnyH_take (i := 3) (oi := _) (v := ?_) rfl (by kernel_rfl) (by kernel_rfl) (by kernel_rfl) (fun _ _ _ h => h) (Or.inl ⟨by rfl, ?_⟩) (by assumption) ?_
  rotate_left
  · intro w hSw
    (try dsimp only at hSw)
    go_simp
    try with_reducible rfl
  try simp only [Act.put, List.setIfInBounds_toArray, List.set_cons_zero, List.set_cons_succ]
  refine wpAnyH_take (i := 5) (oi := _) (v := ?_) rfl (by kernel_rfl) (by kernel_rfl) (by kernel_rfl) (fun _ _ _ h => h) (Or.inl ⟨by rfl, ?_⟩) (by assumption) ?_
  rotate_left
  · intro w hSw
    (try dsimp only at hSw)
    go_simp
    try with_reducible rfl
  try simp only [Act.put, List.setIfInBounds_toArray, List.set_cons_zero, List.set_cons_succ]
  refine wpAnyH_take (i := 6) (oi := _) (v := ?_) rfl (by kernel_rfl) (by kernel_rfl) (by kernel_rfl) (fun _ _ _ h => h) (Or.inl ⟨by rfl, ?_⟩) (by assumption) ?_
  rotate_left
  · intro w hSw
    (try dsimp only at hSw)
    go_simp
    try with_reducible rfl
  try simp only [Act.put, List.setIfInBounds_toArray, List.set_cons_zero, List.set_cons_succ]
  refine wpAnyH_take (i := 7) (oi := _) (v := ?_) rfl (by kernel_rfl) (by kernel_rfl) (by kernel_rfl) (fun _ _ _ h => h) (Or.inl ⟨by rfl, ?_⟩) (by assumption) ?_
  rotate_left
  · intro w hSw
    (try dsimp only at hSw)
    go_simp
    try with_reducible rfl
  try simp only [Act.put, List.setIfInBounds_toArray, List.set_cons_zero, List.set_cons_succ]
  refine wpAnyH_take (i := 8) (oi := _) (v := ?_) rfl (by kernel_rfl) (by kernel_rfl) (by kernel_rfl) (fun _ _ _ h => h) (Or.inl ⟨by rfl, ?_⟩) (by assumption) ?_
  rotate_left
  · intro w hSw
    (try dsimp only at hSw)
    go_simp
    try with_reducible rfl
  try simp only [Act.put, List.setIfInBounds_toArray, List.set_cons_zero, List.set_cons_succ]
  refine wpAnyH_take (i := 9) (oi := _) (v := ?_) rfl (by kernel_rfl) (by kernel_rfl) (by kernel_rfl) (fun _ _ _ h => h) (Or.inl ⟨by rfl, ?_⟩) (by assumption) ?_
  rotate_left
  · intro w hSw
    (try dsimp only at hSw)
    go_simp
    try with_reducible rfl
  try simp only [Act.put, List.setIfInBounds_toArray, List.set_cons_zero, List.set_cons_succ]
  refine wpAnyH_ready (rs := [4, 10]) (by kernel_rfl) (by simp) ?_
  refine AllReadyH.cons (o := _) rfl (fun K hK => ?_) (AllReadyH.cons (o := _) rfl (fun K hK => ?_) AllReadyH.nil)
  · go_simp
    refine hK.out _ _ (by exact KEEP.out _ (Mod.refl _ _).drew) (fun hHeld => ?_)
    clear hK K
    try simp only [Act.put, List.setIfInBounds_toArray, List.set_cons_zero, List.set_cons_succ]
    refine wpAnyH_ready (rs := [10]) (by kernel_rfl) (by simp) ?_
    refine AllReadyH.cons (o := _) rfl (fun K hK => ?_) AllReadyH.nil
    go_simp
    refine hK.out _ _ (by exact KEEP.out _ ((Mod.refl _ _).drew.alloc _)) (fun hHeld => ?_)
    clear hK K
    try simp only [Act.put, List.setIfInBounds_toArray, List.set_cons_zero, List.set_cons_succ]
    refine wpAnyH_ready (rs := [11]) (by kernel_rfl) (by simp) ?_
    refine AllReadyH.cons (o := _) rfl (fun K hK => ?_) AllReadyH.nil
    refine step_append_lies _ rfl (.tmp 27) (.tmp 33) 101 rfl B 164 ie _ 9 ie.bytes Tryz.underlying101 hie hiz his rfl rfl (by decide) tr es.length (eflat es) (by simp [Act.eval, Act.put]) HAR.out.2.2.2 ⟨W.heap.size, 0, none⟩ 1 1 (ecells ⟨0, true, 0, 1, 1, 0, 0, num + 1, t⟩) (by simp [Act.eval, Act.put]) rfl HEV.out (ecells_one _) (by decide) HAR.out.2.1 HAR.out.1 HAR.out.2.2.1 _ rfl ?_
    intro g cap w8 hown hgrow hat hlt2
    have HMG := Lib.hid (show Mod tr.ownBlock.toList W w8 from Mod.grownRow ((Mod.refl _ _).drew.alloc _) hgrow (fun b hb => .inl (by rw [hb]; simp)))
    have HO := Lib.hid hown
    have n5 := HMG.out.at x68 HNO.out.2.1
    have g5 := (HMG.out.frozen (p := ⟨c, 68, none⟩) hcl HNO.out.2.1).trans f68
    clear hown hgrow hat hlt2
    refine hK.out _ _ (by exact KEEP.out _ HMG.out) (fun hHeld => ?_)
    clear hK K
    try simp only [Act.put, List.setIfInBounds_toArray, List.set_cons_zero, List.set_cons_succ]
    refine wpAnyH_take (i := 12) (oi := _) (v := ?_) rfl (by kernel_rfl) (by kernel_rfl) (by kernel_rfl) (fun _ _ _ h => h) (Or.inl ⟨by rfl, ?_⟩) (by assumption) ?_
    rotate_left
    · intro w hSw
      (try dsimp only at hSw)
      go_simp
      try with_reducible rfl
    try simp only [Act.put, List.setIfInBounds_toArray, List.set_cons_zero, List.set_cons_succ]
    refine wpAnyH_take (i := 13) (oi := _) (v := ?_) rfl (by kernel_rfl) (by kernel_rfl) (by kernel_rfl) (fun _ _ _ h => h) (Or.inl ⟨by rfl, ?_⟩) (by assumption) ?_
    rotate_left
    · intro w hSw
      (try dsimp only at hSw)
      go_simp
      try with_reducible rfl
    try simp only [Act.put, List.setIfInBounds_toArray, List.set_cons_zero, List.set_cons_succ]
    refine wpAnyH_ready (rs := [14]) (by kernel_rfl) (by simp) ?_
    refine AllReadyH.cons (o := _) rfl (fun K hK => ?_) AllReadyH.nil
    go_simp
    refine hK.out _ _ (by obtain ⟨q0, q1, q2, q3, q4, q5, q6⟩ := KEEP.out _ HMG.out; exact ⟨(cell_set_far _ _ _ _ HCN.out.1).trans q0, (cell_set_far _ _ _ _ HCN.out.2.1).trans q1, (cell_set_far _ _ _ _ HCN.out.2.2.2).trans q2, (cell_set_far _ _ _ _ HCN.out.2.2.2).trans q3, (cell_set_far _ _ _ _ HCN.out.2.2.1).trans q4, (cell_set_far _ _ _ _ HCN.out.2.2.1).trans q5, (cell_set_far _ _ _ _ HCN.out.2.2.1).trans q6⟩) (fun hHeld => ?_)
    clear hK K
    try simp only [Act.put, List.setIfInBounds_toArray, List.set_cons_zero, List.set_cons_succ]
    refine wpAnyH_done (by kernel_rfl) ?_ _
    clear x68 f68 hcl n5 g5
    have hsc : Mod [c] w8 (w8.setCell ⟨c, 68, none⟩ (.slice (some ⟨g, 0, none⟩) (es.length + 1) cap)) := (Mod.refl _ _).setCell (.inl (by simp)) _
    have HSC := Lib.hid hsc
    clear hsc
    go_wp2
    go_ret
    have hD := HD.out
    refine ⟨rfl, _, (HC.out.mod HMG.out HNO.out.2.1).setTrace _, ?_, (HN.out.mod HMG.out HNO.out.2.2.1).mod HSC.out (by simp; omega), (HK.out.mod HMG.out HNO.out.2.2.2).mod HSC.out (by simp; omega), ?_⟩
    · rw [eflat_app]
      exact ownsRow_mod HO.out HSC.out (fun b hb => by have h1 := (ownsRow_ge HO.out b hb).1; have h2 := HB.out; simp; omega)
    · exact ((HM.out.wide (T := c :: K :: tr.ownBlock.toList) (by simp)).trans (HMG.out.wide (fun k hk => by simp only [List.mem_cons]; exact .inr (.inr hk)))).trans (HSC.out.wide (by simp))
  · go_simp
    refine hK.out _ _ (by exact KEEP.out _ ((Mod.refl _ _).drew.alloc _)) (fun hHeld => ?_)
    clear hK K
    try simp only [Act.put, List.setIfInBounds_toArray, List.set_cons_zero, List.set_cons_succ]
    refine wpAnyH_ready (rs := [4]) (by kernel_rfl) (by simp) ?_
    refine AllReadyH.cons (o := _) rfl (fun K hK => ?_) AllReadyH.nil
    go_simp
    refine hK.out _ _ (by exact KEEP.out _ ((Mod.refl _ _).drew.alloc _)) (fun hHeld => ?_)
    clear hK K
    try simp only [Act.put, List.setIfInBounds_toArray, List.set_cons_zero, List.set_cons_succ]
    refine wpAnyH_ready (rs := [11]) (by kernel_rfl) (by simp) ?_
    refine AllReadyH.cons (o := _) rfl (fun K hK => ?_) AllReadyH.nil
    refine step_append_lies _ rfl (.tmp 27) (.tmp 33) 101 rfl B 164 ie _ 9 ie.bytes Tryz.underlying101 hie hiz his rfl rfl (by decide) tr es.length (eflat es) (by simp [Act.eval, Act.put]) HAR.out.2.2.2 ⟨W.heap.size, 0, none⟩ 1 1 (ecells ⟨0, true, 0, 1, 1, 0, 0, num + 1, t⟩) (by simp [Act.eval, Act.put]) rfl HEV.out (ecells_one _) (by decide) HAR.out.2.1 HAR.out.1 HAR.out.2.2.1 _ rfl ?_
    intro g cap w8 hown hgrow hat hlt2
    have HMG := Lib.hid (show Mod tr.ownBlock.toList W w8 from Mod.grownRow ((Mod.refl _ _).drew.alloc _) hgrow (fun b hb => .inl (by rw [hb]; simp)))
    have HO := Lib.hid hown
    have n5 := HMG.out.at x68 HNO.out.2.1
    have g5 := (HMG.out.frozen (p := ⟨c, 68, none⟩) hcl HNO.out.2.1).trans f68
    clear hown hgrow hat hlt2
    refine hK.out _ _ (by exact KEEP.out _ HMG.out) (fun hHeld => ?_)
    clear hK K
    try simp only [Act.put, List.setIfInBounds_toArray, List.set_cons_zero, List.set_cons_succ]
    refine wpAnyH_take (i := 12) (oi := _) (v := ?_) rfl (by kernel_rfl) (by kernel_rfl) (by kernel_rfl) (fun _ _ _ h => h) (Or.inl ⟨by rfl, ?_⟩) (by assumption) ?_
    rotate_left
    · intro w hSw
      (try dsimp only at hSw)
      go_simp
      try with_reducible rfl
    try simp only [Act.put, List.setIfInBounds_toArray, List.set_cons_zero, List.set_cons_succ]
    refine wpAnyH_take (i := 13) (oi := _) (v := ?_) rfl (by kernel_rfl) (by kernel_rfl) (by kernel_rfl) (fun _ _ _ h => h) (Or.inl ⟨by rfl, ?_⟩) (by assumption) ?_
    rotate_left
    · intro w hSw
      (try dsimp only at hSw)
      go_simp
      try with_reducible rfl
    try simp only [Act.put, List.setIfInBounds_toArray, List.set_cons_zero, List.set_cons_succ]
    refine wpAnyH_ready (rs := [14]) (by kernel_rfl) (by simp) ?_
    refine AllReadyH.cons (o := _) rfl (fun K hK => ?_) AllReadyH.nil
    go_simp
    refine hK.out _ _ (by obtain ⟨q0, q1, q2, q3, q4, q5, q6⟩ := KEEP.out _ HMG.out; exact ⟨(cell_set_far _ _ _ _ HCN.out.1).trans q0, (cell_set_far _ _ _ _ HCN.out.2.1).trans q1, (cell_set_far _ _ _ _ HCN.out.2.2.2).trans q2, (cell_set_far _ _ _ _ HCN.out.2.2.2).trans q3, (cell_set_far _ _ _ _ HCN.out.2.2.1).trans q4, (cell_set_far _ _ _ _ HCN.out.2.2.1).trans q5, (cell_set_far _ _ _ _ HCN.out.2.2.1).trans q6⟩) (fun hHeld => ?_)
    clear hK K
    try simp only [Act.put, List.setIfInBounds_toArray, List.set_cons_zero, List.set_cons_succ]
    refine wpAnyH_done (by kernel_rfl) ?_ _
    clear x68 f68 hcl n5 g5
    have hsc : Mod [c] w8 (w8.setCell ⟨c, 68, none⟩ (.slice (some ⟨g, 0, none⟩) (es.length + 1) cap)) := (Mod.refl _ _).setCell (.inl (by simp)) _
    have HSC := Lib.hid hsc
    clear hsc
    go_wp2
    go_ret
    have hD := HD.out
    refine ⟨rfl, _, (HC.out.mod HMG.out HNO.out.2.1).setTrace _, ?_, (HN.out.mod HMG.out HNO.out.2.2.1).mod HSC.out (by simp; omega), (HK.out.mod HMG.out HNO.out.2.2.2).mod HSC.out (by simp; omega), ?_⟩
    · rw [eflat_app]
      exact ownsRow_mod HO.out HSC.out (fun b hb => by have h1 := (ownsRow_ge HO.out b hb).1; have h2 := HB.out; simp; omega)
    · exact ((HM.out.wide (T := c :: K :: tr.ownBlock.toList) (by simp)).trans (HMG.out.wide (fun k hk => by simp only [List.mem_cons]; exact .inr (.inr hk)))).trans (HSC.out.wide (by simp))

end Go.Proofs.YtaaaiggbnkeblaaGreatDoor
