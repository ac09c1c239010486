/-
  The walk of TopOrder.
-/
import Derived.Test.YtggaaemldcdeiaaGreatDoorTopQ
import Derived.Test.YtggaaemldcdeiaaGreatDoorTopP
import Derived.Test.YtggaaemldcdeiaaGreatDoorTopSh
import Derived.IntWalk
namespace Go.Proofs.YtggaaemldcdeiaaGreatDoor
set_option linter.unusedSimpArgs false
set_option linter.unusedVariables false
open Go.RowKit

def mText : ByteArray := ⟨#[109]⟩
/-- How many of the numbers belong to sender s. -/
def cnt (xs : List Int) (s : Int) : Nat := (xs.map (· % 4)).count s
theorem cnt_snoc {xs : List Int} {i : Nat} {x : Int} (h : xs[i]? = some x) (s : Int) : cnt (xs.take (i + 1)) s = cnt (xs.take i) s + if x % 4 = s then 1 else 0 := by
  have e : xs.take (i + 1) = xs.take i ++ [x] := by rw [List.take_add_one, h]; rfl
  unfold cnt
  rw [e, List.map_append, List.count_append]
  simp [List.count_cons]
theorem cnt_le (xs : List Int) (i : Nat) (s : Int) : cnt (xs.take i) s ≤ i := by
  unfold cnt
  have h1 := List.count_le_length (l := (xs.take i).map (· % 4)) (a := s)
  rw [List.length_map, List.length_take] at h1
  omega
/-- The n-th message (from 1 on). -/
def msgN (xs : List Int) (n : Nat) : M := (xs.getD (n - 1) 0 % 4, (cnt (xs.take n) (xs.getD (n - 1) 0 % 4) : Nat), mText)
theorem msgN_at {xs : List Int} {i : Nat} {x : Int} (h : xs[i]? = some x) : msgN xs (i + 1) = (x % 4, ((cnt (xs.take i) (x % 4) : Nat) : Int) + 1, mText) := by
  unfold msgN
  have e : xs.getD (i + 1 - 1) 0 = x := by simp [List.getD, h]
  rw [e, cnt_snoc h, if_pos rfl]
  rfl
def ringN (xs : List Int) (i : Nat) : Nat → P := fun p => if 1 ≤ p ∧ p ≤ i then ((p : Int), msgN xs p) else p0
theorem ringN_zero (xs : List Int) : ringN xs 0 = fun _ => p0 := by
  funext p
  unfold ringN
  rw [if_neg (by omega)]
theorem ringN_succ (xs : List Int) (i : Nat) : putP (ringN xs i) (i + 1) (((i + 1 : Nat) : Int), msgN xs (i + 1)) = ringN xs (i + 1) := by
  funext p
  unfold putP ringN
  by_cases h : p = i + 1
  · subst h
    rw [if_pos rfl, if_pos (by omega)]
  · rw [if_neg h]
    by_cases h2 : 1 ≤ p ∧ p ≤ i
    · rw [if_pos h2, if_pos (by omega)]
    · rw [if_neg h2, if_neg (by omega)]
theorem ringN_at (xs : List Int) {i n : Nat} (h1 : 1 ≤ n) (h2 : n ≤ i) : ringN xs i n = ((n : Int), msgN xs n) := by unfold ringN; rw [if_pos ⟨h1, h2⟩]
theorem has_in (xs : List Int) {i : Nat} (hi : i ≤ 60) {n : Nat} (h1 : 1 ≤ n) (h2 : n ≤ i) : hasP 0 (ringN xs i) (n : Int) = true := by
  unfold hasP within
  have e : ((n : Int).toNat % 64) = n := by omega
  rw [e, ringN_at xs h1 h2]
  simp
  omega
theorem has_end (xs : List Int) {i : Nat} (hi : i ≤ 60) : hasP 0 (ringN xs i) ((i : Int) + 1) = false := by
  unfold hasP
  have e : (((i : Int) + 1).toNat % 64) = i + 1 := by omega
  rw [e]
  unfold ringN
  rw [if_neg (by omega)]
  have : ((p0 : P).1 == (i : Int) + 1) = false := by
    simp [p0]
    omega
  rw [this]
  simp
theorem has_all (xs : List Int) {i : Nat} (hi : i ≤ 60) : ∀ m : Int, 0 < m → m ≤ i → hasP 0 (ringN xs i) m = true := fun m h0 h1 => by
  have e : m = ((m.toNat : Nat) : Int) := by omega
  rw [e]
  exact has_in xs hi (by omega) (by omega)
theorem within_new {i : Nat} (hi : i < 60) : within 0 ((i : Int) + 1) = true := by
  unfold within
  simp
  omega

open Go.RowKit

/-- Behind i messages: the clerk at dc (its map at mc), the shelf at H, the desks ds by their row at g. -/
structure OrdInv (xs : List Int) (wr : World) (dc mc H g : Nat) (ds : List Nat) (i : Nat) (f : Int → Option Int) (sz : Nat) : Prop where
  clerk : ClerkAt wr dc mc ((i : Int) + 1) f sz
  last : ∀ s, (f s).getD 0 = ((cnt (xs.take i) s : Nat) : Int)
  sz : sz ≤ 64 + i
  shelf : ShelfRaw wr H 0 (ringN xs i)
  desk : ∀ (s d : Nat), ds[s]? = some d → DeskAt wr d (s : Int) ((cnt (xs.take i) (s : Int) : Nat) : Int) []
  row : ∀ (s d : Nat), ds[s]? = some d → wr.cell? ⟨g, s, none⟩ = some (.pointer (some ⟨d, 0, none⟩))
/-- The blocks are not one another. -/
structure OrdSep (dc mc H g : Nat) (ds : List Nat) : Prop where
  c : dc < H ∧ mc < H ∧ dc ≠ mc
  hg : H < g
  d : ∀ d ∈ ds, H < d ∧ d ≠ g
  nodup : ds.Nodup
  len : ds.length = 4

theorem send_ok (d : Nat) (me num : Int) (w : World) (h : DeskAt w d me num []) (hn : num < 1000) :
    Calls Tryz.prog 7 #[.pointer (some ⟨d, 0, none⟩), .string mText] w fun e w' => e = .returned (.tuple #[.agg #[.int .i64 me, .int .u64 (num + 1), .string mText], .int .i64 0]) ∧ Mod [d] w w' ∧ DeskAt w' d me (num + 1) [(me, num + 1, mText)] := by
  have he : sendErr num (([] : List M).length : Int) mText = 0 := by
    unfold sendErr
    rw [if_neg (by decide), if_neg (by simp), if_neg (by omega)]
  refine (send_any d me num [] mText w h (by decide)).mono ?_
  rintro e w' ⟨rfl, hM, hD⟩
  rw [he, if_pos rfl, if_pos rfl] at hD
  rw [he, if_pos rfl]
  exact ⟨rfl, hM, hD⟩
theorem number_ok (d m sz : Nat) (nx : Int) (f : Int → Option Int) (s n : Int) (t : ByteArray) (w : World) (h : ClerkAt w d m nx f sz) (hsz : sz < 1000) (hs : 0 ≤ s ∧ s < 4) (hn : 0 ≤ n ∧ n < 1000) (hf : (f s).getD 0 = n) (hx : 0 ≤ nx ∧ nx < 1000) :
    Calls Tryz.prog 8 #[.pointer (some ⟨d, 0, none⟩), .agg #[.int .i64 s, .int .u64 (n + 1), .string t]] w fun e w' => e = .returned (.tuple #[.int .u64 nx, .int .i64 0]) ∧ (∃ sz', sz' ≤ sz + 1 ∧ ClerkAt w' d m (nx + 1) (updO f s (n + 1)) sz') ∧ Mod [d, m] w w' := by
  have hi : isNode s = true := by unfold isNode; simp; omega
  have he : numErr nx f s (n + 1) = 0 := by
    unfold numErr
    rw [if_neg (by rw [hi]; simp; omega), hf, if_neg (by omega), if_neg (by omega), if_neg (by omega)]
  refine (number_any d m sz nx f s (n + 1) t w h (by omega) (WalkArith.wf_i64 (by omega)) (by omega) (by omega) (by omega)).mono ?_
  rintro e w' ⟨rfl, hM, sz', h1, hC⟩
  rw [he] at hC ⊢
  exact ⟨rfl, ⟨sz', h1, hC⟩, hM⟩
theorem seen_ok (d : Nat) (me num : Int) (t : ByteArray) (w : World) (h : DeskAt w d me num [(me, num, t)]) :
    Calls Tryz.prog 10 #[.pointer (some ⟨d, 0, none⟩), .agg #[.int .i64 me, .int .u64 num, .string t]] w fun e w' => e = .returned (.bool true) ∧ Mod [d] w w' ∧ DeskAt w' d me num [] := by
  have hs : seenOk me [(me, num, t)] (me, num, t) = true := by simp [seenOk]
  refine (seen_any d me num [(me, num, t)] (me, num, t) w h).mono ?_
  rintro e w' ⟨rfl, hM, hD⟩
  rw [hs] at hD ⊢
  exact ⟨rfl, hM, hD⟩

theorem OrdInv.next {xs : List Int} {w w' : World} {dc mc H g i k d : Nat} {ds : List Nat} {f : Int → Option Int} {sz sz' : Nat} {x : Int} (h : OrdInv xs w dc mc H g ds i f sz) (hs : OrdSep dc mc H g ds) (hx : xs[i]? = some x) (hk : x % 4 = (k : Int)) (hd : ds[k]? = some d)
    (hc : ClerkAt w' dc mc ((i : Int) + 1 + 1) (updO f k (((cnt (xs.take i) k : Nat) : Int) + 1)) sz') (hz : sz' ≤ sz + 1) (hsh : ShelfRaw w' H 0 (putP (ringN xs i) (i + 1) ((i : Int) + 1, ((k : Int), ((cnt (xs.take i) k : Nat) : Int) + 1, mText))))
    (hdk : DeskAt w' d k (((cnt (xs.take i) k : Nat) : Int) + 1) []) (hm : Mod [dc, mc, H, d] w w') : OrdInv xs w' dc mc H g ds (i + 1) (updO f k (((cnt (xs.take i) k : Nat) : Int) + 1)) sz' := by
  have hsc := hs.c
  have hsg := hs.hg
  have hdd := hs.d d (List.mem_of_getElem? hd)
  refine ⟨by simpa using hc, fun s => ?_, by have := h.sz; omega, ?_, fun s b hb => ?_, fun s b hb => ?_⟩
  · rw [cnt_snoc hx, hk]
    unfold updO
    by_cases e : s = (k : Int)
    · subst e
      simp
    · rw [if_neg e, if_neg (fun e2 => e e2.symm), h.last s]
      simp
  · rw [← ringN_succ]
    have e := msgN_at hx
    rw [hk] at e
    rw [e]
    simpa using hsh
  · rw [cnt_snoc hx, hk]
    by_cases e : s = k
    · subst e
      rw [hd] at hb
      cases hb
      rw [if_pos rfl]
      simpa using hdk
    · rw [if_neg (by omega), Nat.add_zero]
      have hbd : b ≠ d := fun e2 => by
        subst e2
        have h1 := (List.getElem?_eq_some_iff.1 hb)
        have h2 := (List.getElem?_eq_some_iff.1 hd)
        have hnd := List.pairwise_iff_getElem.1 hs.nodup
        rcases Nat.lt_or_gt_of_ne e with h3 | h3
        · exact hnd _ _ h1.1 h2.1 h3 (h1.2.trans h2.2.symm)
        · exact hnd _ _ h2.1 h1.1 h3 (h2.2.trans h1.2.symm)
      have hbb := hs.d b (List.mem_of_getElem? hb)
      exact (h.desk s b hb).mod hm (by simp; omega)
  · exact hm.at (h.row s b hb) (by simp; omega)

open Go.RowKit

theorem wf_bounds_u8' {x : Int} (h : (Lit.int .u8 x).wf = true) : 0 ≤ x ∧ x ≤ 255 := by
  simp only [Lit.wf, Bool.and_eq_true, decide_eq_true_eq] at h; exact h
/-- The desks so far: block ds[s] is the desk of s. -/
structure DesksAt (w0 wr : World) (B : Nat) (v : Value) (ds : List Nat) : Prop where
  own : wr.ownsRow B 36 1 v ds.length (ds.map fun d => Value.pointer (some ⟨d, 0, none⟩))
  desk : ∀ (s d : Nat), ds[s]? = some d → DeskAt wr d (s : Int) 0 [] ∧ B ≤ d
  apart : ∀ d ∈ ds, v.ownBlock ≠ some d
  nodup : ds.Nodup
  mod : Mod [B] w0 wr

theorem info_desk : ∃ i, Tryz.prog.info? 36 = some i ∧ i.zero = some (.pointer none) ∧ i.size = 1 ∧ i.bytes ≤ 16 := by
  have h : (Tryz.prog.info? 36).map (fun i => (i.zero, i.size, decide (i.bytes ≤ 16))) = some (some (.pointer none), 1, true) := by kernel_rfl
  cases hi : Tryz.prog.info? 36 with
  | none => rw [hi] at h; cases h
  | some i =>
    rw [hi] at h
    simp at h
    exact ⟨i, rfl, h.1, h.2.1, h.2.2⟩

/-- What the last loop keeps: the number of each sender's last message. -/
structure LastAt (w : World) (lb : Nat) (xs : List Int) (j : Nat) : Prop where
  cell : ∀ s : Nat, s < 4 → w.cell? ⟨lb, s, none⟩ = some (.int .u64 ((cnt (xs.take j) (s : Int) : Nat) : Int))
  free : ∀ j, w.frozen? ⟨lb, j, none⟩ = false
theorem LastAt.mod {w w' : World} {lb j : Nat} {xs : List Int} {S : List Nat} (h : LastAt w lb xs j) (hm : Mod S w w') (hs : lb ∉ S) : LastAt w' lb xs j :=
  ⟨fun s h4 => hm.at (h.cell s h4) hs, fun i => (hm.frozen (p := ⟨lb, i, none⟩) (cell_lt' (h.cell 0 (by decide)) : lb < w.heap.size) hs).trans (h.free i)⟩
theorem LastAt.set {w : World} {lb j k : Nat} {xs : List Int} {x : Int} (h : LastAt w lb xs j) (hx : xs[j]? = some x) (hk : x % 4 = (k : Int)) (h4 : k < 4) : LastAt (w.setCell ⟨lb, k, none⟩ (.int .u64 (((cnt (xs.take j) (k : Int) : Nat) : Int) + 1))) lb xs (j + 1) := by
  refine ⟨fun s hs => ?_, fun i => (frozen_set _ _ _ _).trans (h.free i)⟩
  rw [cnt_snoc hx, hk]
  by_cases e : s = k
  · subst e
    rw [if_pos rfl, cell_set_same (h.cell s hs)]
    rfl
  · rw [cell_set_off _ _ _ _ (by simp; omega), h.cell s hs, if_neg (by omega)]
    rfl

set_option maxRecDepth 100000 in
set_option maxHeartbeats 8000000 in
theorem walk_TopOrder (w : World) (a : Option Addr) (c : Nat) (xs : List Int) (hr : RdInts .u8 w a xs) (hwf : ∀ x ∈ xs, (Lit.int .u8 x).wf = true) (ht : Tab w) :
    Calls Tryz.prog 3 #[.slice a xs.length c] w (TruePost w) := by
  have hpn : ∀ (a : Addr) (w : World), (binOp .eql 36 (.pointer (some a)) (.pointer none)).run Tryz.prog w = .ok (.bool false) w := fun a w => by kernel_rfl
  have HR := Lib.hid hr
  have HWF := Lib.hid hwf
  have HT := Lib.hid ht
  clear hr hwf ht
  by_cases hl : 60 < xs.length
  · have hl' : (60 : Int) < xs.length := by omega
    go_enter Tryz.func3, Tryz.ntmps3
    go_wp2_with fail
    refine (shown_is _ HT.out).mono ?_
    rintro e w1 ⟨rfl, hM⟩
    have HM := Lib.hid hM
    clear hM
    go_wp2
    go_ret
    exact ⟨rfl, HM.out⟩
  · have hl' : ¬ (60 : Int) < xs.length := by omega
    have HL := Lib.hid (show xs.length ≤ 60 by omega)
    go_enter Tryz.func3, Tryz.ntmps3
    go_wp2_with fail
    refine (shown_is _ HT.out).mono ?_
    rintro e w1 ⟨rfl, hM⟩
    have HM := Lib.hid hM
    have hM := hM.size
    go_wp2_with fail
    refine (newclerk_nil 1 _ (by decide) (by decide)).mono ?_
    rintro e w2 ⟨dc, mc, sz, rfl, hdc, hmc, hsz, hCl, hM2⟩
    have HCK := Lib.hid (And.intro hCl (And.intro hsz (And.intro hdc hmc)))
    replace HM := Lib.hid (HM.out.trans hM2)
    have HX := Lib.hid (show w.heap.size ≤ dc ∧ w.heap.size ≤ mc ∧ dc < w2.heap.size ∧ mc < w2.heap.size ∧ dc ≠ mc from by
      have h1 := HM.out.size
      have h2 := block_lt_of_cell hCl.1
      have h3 := hCl.2.2.2.2.1.lt
      have h4 := hCl.2.2.2.1
      have h5 := hM
      exact ⟨by omega, by omega, h2, h3, h4⟩)
    clear hdc hmc hsz hCl hM2 hM
    go_wp2_with fail
    have hsh : ShelfRaw ((w2.alloc (.cells Tryz.zeroCells34 34)).alloc (.cells #[] 36)) w2.heap.size 0 (fun _ => p0) := shelf_zero (row_alloc (heap_new w2 (.cells Tryz.zeroCells34 34)))
    have hrow : ((w2.alloc (.cells Tryz.zeroCells34 34)).alloc (.cells #[] 36)).heap[w2.heap.size + 1]? = some (.cells #[] 36 (0, 0)) := heap_top _ _ _
    have hm3 : Mod [] w2 ((w2.alloc (.cells Tryz.zeroCells34 34)).alloc (.cells #[] 36)) := ((Mod.refl [] _).alloc _).alloc _
    have hs3 : ((w2.alloc (.cells Tryz.zeroCells34 34)).alloc (.cells #[] 36)).heap.size = w2.heap.size + 2 := by simp
    replace HM := Lib.hid (HM.out.trans hm3)
    replace HCK := Lib.hid (And.intro (HCK.out.1.mod hm3 (by simp) (by simp)) HCK.out.2.1)
    have HS := Lib.hid hsh
    have HROW := Lib.hid (And.intro hrow hs3)
    clear hsh hrow hm3 hs3
    generalize (w2.alloc (.cells Tryz.zeroCells34 34)).alloc (.cells #[] 36) = W3 at HM HCK HS HROW ⊢
    generalize w2.heap.size = H at HX HS HROW ⊢
    generalize Tryz.zeroCells34 = ZC
    obtain ⟨ie, hie, hiz, his, hib⟩ := info_desk
    have HIB := Lib.hid hib
    clear hib
    go_loopw [5, 6] (fun v i wr => ∃ ds : List Nat, i = .int .i64 ds.length ∧ ds.length ≤ 4 ∧ DesksAt W3 wr (H + 1) v ds) (fun _ i _ => 4 - (intOf i).toNat)
    case atStart =>
      exact ⟨[], rfl, by simp, ⟨rfl, .inr ⟨H + 1, 0, #[], rfl, Nat.le_refl _, HROW.out.1, Nat.le_refl _, by simp, rfl, rfl⟩⟩, fun s d h => by simp at h, fun d h => by simp at h, List.nodup_nil, Mod.refl _ _⟩
    case round =>
      obtain ⟨ds, rfl, hds, hD⟩ := hrel
      have HD := Lib.hid hD
      clear hD
      obtain ⟨n, hn⟩ : ∃ n, ds.length = n := ⟨_, rfl⟩
      rw [hn] at hds
      rw [hn]
      have HN := Lib.hid hn
      clear hn
      by_cases hlt : n < 4
      · have hlt' : (n : Int) < 4 := by omega
        have hnode : isNode (n : Int) = true := by unfold isNode; simp; omega
        have HNO := Lib.hid hnode
        clear hnode
        go_wp2_with fail
        refine (newdesk_any (n : Int) 0 _ HNO.out (by decide) (by decide)).mono ?_
        rintro e w4 ⟨d, rfl, hd, hdk, hM4⟩
        have hB4 : H + 1 ≤ wr.heap.size := by
          have h1 := HD.out.mod.size
          have h2 := HROW.out.2
          omega
        have hown2 := ownsRow_mod (ownsRow_mod HD.out.own hM4 (by simp)) ((Mod.refl [] w4).alloc (.cells #[.pointer (some ⟨d, 0, none⟩)] 36)) (by simp)
        rw [HN.out] at hown2
        have hdl : d < w4.heap.size := by
          obtain ⟨_, _, hraw, _⟩ := hdk
          exact hraw.lt
        have hold : ∀ b, u5.ownBlock = some b → b < wr.heap.size := fun b hb => (ownsRow_ge HD.out.own b hb).2
        have HK4 := Lib.hid (And.intro hd (And.intro hdk (And.intro hM4 (And.intro hB4 (And.intro hdl hold)))))
        have HEV := Lib.hid (World.news_of_block (heap_new w4 (.cells #[.pointer (some ⟨d, 0, none⟩)] 36)))
        have hby : (n + 1) * ie.bytes ≤ 140737488355328 := by
          have := Nat.mul_le_mul (show n + 1 ≤ 5 by omega) HIB.out
          omega
        have hmx : n + 1 ≤ maxLen := by unfold maxLen; omega
        have hbs : H + 1 ≤ (w4.alloc (.cells #[.pointer (some ⟨d, 0, none⟩)] 36)).heap.size := by
          have := hM4.size
          simp
          omega
        have HAR := Lib.hid (And.intro hown2 (And.intro hmx (And.intro hby hbs)))
        clear hd hdk hM4 hB4 hown2 hby hmx hbs hdl hold
        go_wp2_with (at_builtin; with_reducible refine wpList_append_lies _ rfl (.tmp 38) (.tmp 40) 35 rfl (H + 1) 36 ie _ 1 ie.bytes Tryz.underlying35 hie hiz his rfl rfl (by decide) u5 n (ds.map fun d => Value.pointer (some ⟨d, 0, none⟩)) rfl HAR.out.1 ⟨w4.heap.size, 0, none⟩ 1 1 [.pointer (some ⟨d, 0, none⟩)] rfl rfl HEV.out (by simp [Value.oneCell']) (by decide) HAR.out.2.1 HAR.out.2.2.1 HAR.out.2.2.2 _ rfl ?_; intro g' cap w5 hown hgrow hat hlt2)
        have HG := Lib.hid (And.intro hown (And.intro hgrow (And.intro hat hlt2)))
        clear hown hgrow hat hlt2
        go_wp2_with fail
        go_roundw
        case rel =>
          obtain ⟨hown, hgrow, hat, hlt2⟩ := HG.out
          obtain ⟨hd, hdk, hM4, hB4, hdl, hold⟩ := HK4.out
          have hm5 : Mod u5.ownBlock.toList w4 w5 := Mod.grownRow ((Mod.refl _ _).alloc _) hgrow (fun b hb => .inl (by rw [hb]; simp))
          have hno : ∀ x, u5.ownBlock ≠ some x → x ∉ u5.ownBlock.toList := fun x hx hb => by
            rw [Option.mem_toList] at hb
            exact hx hb
          have hd5 : u5.ownBlock ≠ some d := fun e => by have := hold d e; omega
          refine ⟨ds ++ [d], by simp [HN.out], by simp [HN.out]; omega, ⟨?_, ?_, ?_, ?_, ?_⟩⟩
          · have e1 : (ds ++ [d]).length = n + 1 := by simp [HN.out]
            rw [e1, List.map_append]
            exact hown
          · intro s x hs
            by_cases h1 : s < ds.length
            · rw [List.getElem?_append_left h1] at hs
              obtain ⟨h2, h3⟩ := HD.out.desk s x hs
              exact ⟨(h2.mod hM4 (by simp)).mod hm5 (hno x (HD.out.apart x (List.mem_of_getElem? hs))), h3⟩
            · rw [List.getElem?_append_right (by omega)] at hs
              have h4 : s - ds.length = 0 := by
                have := (List.getElem?_eq_some_iff.1 hs).1
                simp at this
                omega
              rw [h4] at hs
              obtain rfl : d = x := by simpa using hs
              obtain rfl : s = n := by have := HN.out; omega
              exact ⟨hdk.mod hm5 (hno d hd5), by omega⟩
          · intro x hx e
            have e2 : g' = x := by simpa [Value.ownBlock] using e
            subst e2
            rcases hat with h | h
            · rcases List.mem_append.1 hx with h2 | h2
              · exact HD.out.apart g' h2 h
              · simp at h2
                rw [h2] at h
                exact hd5 h
            · have h3 : g' < w4.heap.size := by
                rcases List.mem_append.1 hx with h2 | h2
                · obtain ⟨i, hi⟩ := List.mem_iff_getElem?.1 h2
                  obtain ⟨⟨_, _, hraw, _⟩, _⟩ := HD.out.desk i g' hi
                  have := hraw.lt
                  have := hM4.size
                  omega
                · simp at h2
                  omega
              simp at h
              omega
          · rw [List.nodup_append]
            refine ⟨HD.out.nodup, by simp, fun x hx y hy => ?_⟩
            simp at hy
            subst hy
            obtain ⟨i, hi⟩ := List.mem_iff_getElem?.1 hx
            obtain ⟨⟨_, _, hraw, _⟩, _⟩ := HD.out.desk i x hi
            have := hraw.lt
            omega
          · exact (HD.out.mod.trans (hM4.wide (by simp))).step hm5 (fun x hx => by
              rw [Option.mem_toList] at hx
              have h1 := (ownsRow_ge HD.out.own x hx).1
              have := HROW.out.2
              by_cases h2 : x = H + 1
              · exact .inl (by simp [h2])
              · exact .inr (by omega))
        case measure => simp [intOf]; omega
      · obtain rfl : n = 4 := by omega
        have h4 := HN.out
        obtain ⟨d0, d1, d2, d3, rfl⟩ : ∃ d0 d1 d2 d3, ds = [d0, d1, d2, d3] := by
          match ds, h4 with
          | [d0, d1, d2, d3], _ => exact ⟨d0, d1, d2, d3, rfl⟩
        obtain ⟨g, cap, rfl⟩ : ∃ g cap, u5 = .slice (some ⟨g, 0, none⟩) 4 cap := by
          obtain ⟨g, cap, h⟩ := ownsRow_succ (show wr.ownsRow (H + 1) 36 1 u5 (3 + 1) _ from HD.out.own)
          exact ⟨g, cap, h⟩
        have e4 : ((4 : Nat) : Int) = 4 := rfl
        rw [e4]
        clear e4
        clear h4 hlt hds
        go_wp2_with fail
        have hsep : OrdSep dc mc H g [d0, d1, d2, d3] := by
          have h1 := HX.out
          have hge := (ownsRow_ge HD.out.own g rfl).1
          exact ⟨by omega, by omega, fun d hd => ⟨by obtain ⟨i, hi⟩ := List.mem_iff_getElem?.1 hd; have := (HD.out.desk i d hi).2; omega, fun e => HD.out.apart d hd (by simp [Value.ownBlock, e])⟩, HD.out.nodup, rfl⟩
        have hinv : OrdInv xs wr dc mc H g [d0, d1, d2, d3] 0 (fun _ => none) sz := by
          refine ⟨HCK.out.1.mod HD.out.mod (by have := HX.out; simp; omega) (by have := HX.out; simp; omega), fun s => by simp [cnt], by have := HCK.out.2; omega, ?_, fun s d h => ?_, fun s d h => ?_⟩
          · rw [ringN_zero]
            exact HS.out.mod HD.out.mod (by simp)
          · have := (HD.out.desk s d h).1
            simpa [cnt] using this
          · exact ownsRow_cells HD.out.own s _ (by rw [List.getElem?_map, h]; rfl)
        have HSEP := Lib.hid hsep
        have HINV := Lib.hid hinv
        replace HM := Lib.hid (HM.out.step HD.out.mod (fun x hx => .inr (by have := HX.out; simp at hx; omega)))
        clear hsep hinv HD HCK HS HROW HN
        obtain ⟨wo, hwo⟩ : ∃ wo : World, wo = wr := ⟨_, rfl⟩
        have HWO := Lib.hid hwo
        clear hwo
        go_loopw [8] (fun v wr => ∃ i : Nat, v = .int .i64 i ∧ i ≤ xs.length ∧ (∃ f sz, OrdInv xs wr dc mc H g [d0, d1, d2, d3] i f sz) ∧ Mod [] w wr) (fun v _ => xs.length - (intOf v).toNat)
        case atStart => exact ⟨0, rfl, Nat.zero_le _, ⟨_, _, HINV.out⟩, HM.out⟩
        case round =>
          obtain ⟨i, rfl, hi, ⟨f, sz, hI⟩, hMi⟩ := hrel
          have HI := Lib.hid hI
          have HMI := Lib.hid hMi
          clear hI hMi
          by_cases hlt : i < xs.length
          · have hlt' : (i : Int) < xs.length := by omega
            obtain ⟨x, hx⟩ : ∃ x, xs[i]? = some x := ⟨_, List.getElem?_eq_getElem hlt⟩
            have hxw := wf_bounds_u8' (HWF.out x (List.mem_of_getElem? hx))
            obtain ⟨ad, rfl, hadl, hcx⟩ := (HR.out.mod HMI.out (by simp)) (by intro h; rw [h] at hlt; simp at hlt)
            have cx := hcx i x hx
            obtain ⟨k, hk⟩ : ∃ k : Nat, x % 4 = (k : Int) := ⟨(x % 4).toNat, by omega⟩
            have hk4 : k < 4 := by omega
            obtain ⟨d, hd⟩ : ∃ d, [d0, d1, d2, d3][k]? = some d := ⟨_, List.getElem?_eq_getElem (by simpa using hk4)⟩
            have hrem : x.tmod 4 = (k : Int) := by rw [Int.tmod_eq_emod_of_nonneg hxw.1]; exact hk
            have gk := HI.out.row k d hd
            have HK := Lib.hid (And.intro hk (And.intro hk4 (And.intro hd (And.intro hx hxw))))
            have h60 := HL.out
            have hk4i : (k : Int) < 4 := by omega
            have hk0i : 0 ≤ (k : Int) := by omega
            obtain ⟨x0, x1⟩ := hxw
            clear hk hd hx hcx hadl
            go_wp2_with fail
            obtain ⟨num, hnum⟩ : ∃ num : Nat, cnt (xs.take i) (k : Int) = num := ⟨_, rfl⟩
            have hn60 : num < 1000 := by have := cnt_le xs i (k : Int); omega
            have hdk := HI.out.desk k d HK.out.2.2.1
            rw [hnum] at hdk
            have hlast := HI.out.last (k : Int)
            rw [hnum] at hlast
            have HNUM := Lib.hid (And.intro hnum (And.intro hn60 hlast))
            have HDD := Lib.hid (show d ≠ dc ∧ d ≠ mc ∧ d ≠ H ∧ d ≠ g from by
              have h1 := HSEP.out.c
              have h2 := HSEP.out.d d (List.mem_of_getElem? HK.out.2.2.1)
              omega)
            have HGG := Lib.hid (show g ≠ dc ∧ g ≠ mc ∧ g ≠ H ∧ dc ≠ H ∧ mc ≠ H from by
              have h1 := HSEP.out.c
              have h2 := HSEP.out.hg
              omega)
            refine (send_ok d k num _ hdk (by have := HNUM.out.2.1; omega)).mono ?_
            rintro e w5 ⟨rfl, hM5, hd5⟩
            have HD5 := Lib.hid hd5
            have HM5 := Lib.hid hM5
            clear hnum hn60 hlast hdk hM5 hd5 cx gk
            go_wp2_with fail
            have hrow := heap_new w5 (.cells #[.int .i64 k, .int .u64 (num + 1), .string mText] 29)
            have hmw := (Mod.refl [] w5).alloc (.cells #[.int .i64 k, .int .u64 (num + 1), .string mText] 29)
            have HB := Lib.hid (show d < w5.heap.size ∧ dc < w5.heap.size ∧ mc < w5.heap.size ∧ H < w5.heap.size ∧ g < w5.heap.size from by
              obtain ⟨_, _, hraw, _⟩ := HD5.out
              have h1 := hraw.lt
              have h2 := HM5.out.size
              have h3 : dc < wr.heap.size := block_lt_of_cell HI.out.clerk.1
              have h4 : mc < wr.heap.size := HI.out.clerk.2.2.2.2.1.lt
              have h5 : H < wr.heap.size := HI.out.shelf.lt
              have h6 : g < wr.heap.size := cell_lt' (HI.out.row k d HK.out.2.2.1)
              exact ⟨hraw.lt, by omega, by omega, by omega, by omega⟩)
            replace HM5 := Lib.hid (HM5.out.trans (hmw.wide (by simp)))
            replace HD5 := Lib.hid (HD5.out.mod hmw (by simp))
            generalize w5.alloc (.cells #[.int .i64 k, .int .u64 (num + 1), .string mText] 29) = w6 at hrow hmw HM5 HD5 ⊢
            generalize w5.heap.size = b at hrow HB ⊢
            have HROW := Lib.hid hrow
            clear hrow hmw
            have b0 := cell_in HROW.out (show (#[Value.int .i64 k, .int .u64 (num + 1), .string mText] : Array Value)[0]? = some (.int .i64 k) from rfl)
            have b1 := cell_in HROW.out (show (#[Value.int .i64 k, .int .u64 (num + 1), .string mText] : Array Value)[1]? = some (.int .u64 (num + 1)) from rfl)
            have b2 := cell_in HROW.out (show (#[Value.int .i64 k, .int .u64 (num + 1), .string mText] : Array Value)[2]? = some (.string mText) from rfl)
            have hck := HI.out.clerk.mod HM5.out (show dc ∉ [d] by have := HDD.out; simp; omega) (show mc ∉ [d] by have := HDD.out; simp; omega)
            refine (number_ok dc mc sz ((i : Int) + 1) f k num mText _ hck (by have := HI.out.sz; omega) (by have := HK.out.2.1; omega) (by have := HNUM.out.2.1; omega) HNUM.out.2.2 (by omega)).mono ?_
            rintro e w7 ⟨rfl, ⟨sz7, hz7, hc7⟩, hM7⟩
            have hbc : b ∉ [dc, mc] := by have := HB.out; simp; omega
            have HC7 := Lib.hid (And.intro hz7 hc7)
            replace HD5 := Lib.hid (HD5.out.mod hM7 (by have := HDD.out; simp; omega))
            replace HROW := Lib.hid (row_mod hM7 HROW.out hbc)
            have hsh7 := (HI.out.shelf.mod HM5.out (show H ∉ [d] by have := HDD.out; simp; omega)).mod hM7 (by have := HGG.out; simp; omega)
            have gk7 : w7.cell? ⟨g, k, none⟩ = some (.pointer (some ⟨d, 0, none⟩)) := hM7.at (HM5.out.at (HI.out.row k d HK.out.2.2.1) (by have := HDD.out; simp; omega)) (by have := HGG.out; simp; omega)
            have HS7 := Lib.hid hsh7
            replace HM5 := Lib.hid ((HM5.out.wide (T := [dc, mc, H, d]) (by simp)).trans (hM7.wide (by simp)))
            clear b0 b1 b2 hck hz7 hc7 hM7 hbc hsh7
            have b0 := cell_in HROW.out (show (#[Value.int .i64 k, .int .u64 (num + 1), .string mText] : Array Value)[0]? = some (.int .i64 k) from rfl)
            have b1 := cell_in HROW.out (show (#[Value.int .i64 k, .int .u64 (num + 1), .string mText] : Array Value)[1]? = some (.int .u64 (num + 1)) from rfl)
            have b2 := cell_in HROW.out (show (#[Value.int .i64 k, .int .u64 (num + 1), .string mText] : Array Value)[2]? = some (.string mText) from rfl)
            go_wp2_with fail
            have HBN := Lib.hid (show (g ∉ [H] ∧ b ∉ [H]) ∧ g ∉ [d] ∧ b ∉ [d] from by have h1 := HGG.out; have h2 := HB.out; have h3 := HDD.out; simp; omega)
            have HPQ := Lib.hid (show hasP 0 (ringN xs i) ((i : Int) + 1) = false ∧ within 0 ((i : Int) + 1) = true ∧ 0 < (i : Int) + 1 ∧ (i : Int) + 1 < 18446744073709551615 from ⟨has_end xs (by omega), within_new (by omega), by omega, by omega⟩)
            have HDH := Lib.hid (show d ∉ [H] from by have := HDD.out; simp; omega)
            have hwr1 : IntKind.u64.wrap (i : Int) = i := IntWalk.u64_in _ (by omega)
            have hwr2 : IntKind.u64.wrap ((i : Int) + 1) = (i : Int) + 1 := IntWalk.u64_in _ (by omega)
            go_region_held3 (fun w' => w'.cell? ⟨g, k, none⟩ = some (.pointer (some ⟨d, 0, none⟩)) ∧ w'.cell? ⟨b, 0, none⟩ = some (.int .i64 k) ∧ w'.cell? ⟨b, 1, none⟩ = some (.int .u64 (num + 1)) ∧ w'.cell? ⟨b, 2, none⟩ = some (.string mText)) (first | exact ⟨gk7, b0, b1, b2⟩ | exact ⟨HM8.out.at gk7 HBN.out.1.1, HM8.out.at b0 HBN.out.1.2, HM8.out.at b1 HBN.out.1.2, HM8.out.at b2 HBN.out.1.2⟩ | exact ⟨HM9.out.at (HM8.out.at gk7 HBN.out.1.1) HBN.out.2.1, HM9.out.at (HM8.out.at b0 HBN.out.1.2) HBN.out.2.2, HM9.out.at (HM8.out.at b1 HBN.out.1.2) HBN.out.2.2, HM9.out.at (HM8.out.at b2 HBN.out.1.2) HBN.out.2.2⟩) ((first | (go_at_call 9; refine (sput_ok H 0 (ringN xs i) ((i : Int) + 1) k (num + 1) mText _ (HS7.out.mod (Mod.refl [] _).drew (by simp)) HPQ.out.2.2.1 HPQ.out.2.2.2 (by decide) HPQ.out.1 HPQ.out.2.1).mono ?_; rintro e w8 ⟨rfl, hsh8, hM8⟩; have HM8 := Lib.hid ((Mod.refl [H] w7).drew.trans hM8); have HS8 := Lib.hid hsh8; clear hM8 hsh8) | (go_at_call 10; refine (seen_ok d k (num + 1) mText _ (HD5.out.mod HM8.out HDH.out)).mono ?_; rintro e w9 ⟨rfl, hM9, hd9⟩; have HM9 := Lib.hid hM9; have HD9 := Lib.hid hd9; clear hM9 hd9)))
            go_wp2_with fail
            go_roundw
            case rel =>
              have h1 := HDD.out
              have h2 := HGG.out
              have h3 := HX.out
              have h4 := HSEP.out.c
              have h5 := HSEP.out.d d (List.mem_of_getElem? HK.out.2.2.1)
              have h6 := HNUM.out.1
              subst h6
              have hc := (HC7.out.2.mod HM8.out (show dc ∉ [H] by simp; omega) (show mc ∉ [H] by simp; omega)).mod HM9.out (show dc ∉ [d] by simp; omega) (show mc ∉ [d] by simp; omega)
              have hm := (HM5.out.trans (HM8.out.wide (by simp))).trans (HM9.out.wide (T := [dc, mc, H, d]) (by simp))
              have hsh := HS8.out.mod HM9.out (show H ∉ [d] by simp; omega)
              have e1 : (((i : Int) + 1).toNat % 64) = i + 1 := by omega
              rw [e1] at hsh
              exact ⟨i + 1, by go_num, by omega, ⟨_, sz7, HI.out.next HSEP.out HK.out.2.2.2.1 HK.out.1 HK.out.2.2.1 hc HC7.out.1 hsh HD9.out hm⟩, HMI.out.step hm (fun y hy => .inr (by simp at hy; omega))⟩
            case measure => simp [intOf]; omega
          · obtain rfl : i = xs.length := by omega
            go_wp2_with fail
            have hrow := heap_new wr (.cells #[.int .u64 0, .int .u64 0, .int .u64 0, .int .u64 0] 45)
            have hmw := (Mod.refl [] wr).alloc (.cells #[.int .u64 0, .int .u64 0, .int .u64 0, .int .u64 0] 45)
            have hla : LastAt (wr.alloc (.cells #[.int .u64 0, .int .u64 0, .int .u64 0, .int .u64 0] 45)) wr.heap.size xs 0 := by
              refine ⟨fun s hs => cell_in hrow ?_, fun j => free_in hrow⟩
              have e : s = 0 ∨ s = 1 ∨ s = 2 ∨ s = 3 := by omega
              rcases e with rfl | rfl | rfl | rfl <;> simp [cnt]
            have HS2 := Lib.hid (HI.out.shelf.mod hmw (by simp))
            have HM2 := Lib.hid (HMI.out.trans hmw)
            have HLB := Lib.hid (show H < wr.heap.size ∧ w.heap.size ≤ wr.heap.size from ⟨HI.out.shelf.lt, HMI.out.size⟩)
            have HLA := Lib.hid hla
            clear hrow hmw hla hlt HI HMI
            generalize wr.alloc (.cells #[.int .u64 0, .int .u64 0, .int .u64 0, .int .u64 0] 45) = w5 at HS2 HM2 HLA ⊢
            generalize wr.heap.size = lb at HLB HLA ⊢
            go_loopw [15] (fun v wr => ∃ j : Nat, v = .int .u64 ((j : Int) + 1) ∧ j ≤ xs.length ∧ LastAt wr lb xs j ∧ ShelfRaw wr H 0 (ringN xs xs.length) ∧ Mod [] w wr) (fun v _ => (xs.length + 1 - intOf v).toNat)
            case atStart => exact ⟨0, rfl, Nat.zero_le _, HLA.out, HS2.out, HM2.out⟩
            case round =>
              obtain ⟨j, rfl, hj, hla, hsh, hMj⟩ := hrel
              have HJ := Lib.hid (And.intro hla (And.intro hsh hMj))
              have HRE := Lib.hid (sreach_any H 0 (ringN xs xs.length) xs.length _ hsh (by omega) (by have := HL.out; omega) (has_all xs HL.out) (has_end xs HL.out))
              have h60 := HL.out
              clear hla hsh hMj
              by_cases hlt : j < xs.length
              · have hlt' : (j : Int) < xs.length := by omega
                have hle : (j : Int) + 1 ≤ xs.length := by omega
                obtain ⟨x, hx⟩ : ∃ x, xs[j]? = some x := ⟨_, List.getElem?_eq_getElem hlt⟩
                have hxw := wf_bounds_u8' (HWF.out x (List.mem_of_getElem? hx))
                obtain ⟨k, hk⟩ : ∃ k : Nat, x % 4 = (k : Int) := ⟨(x % 4).toNat, by omega⟩
                have hk4 : k < 4 := by omega
                obtain ⟨num, hnum⟩ : ∃ num : Nat, cnt (xs.take j) (k : Int) = num := ⟨_, rfl⟩
                have hn60 : num < 1000 := by have := cnt_le xs j (k : Int); omega
                have hmsg := msgN_at hx
                rw [hk, hnum] at hmsg
                have hrg : (ringN xs xs.length (((j : Int) + 1).toNat % 64)).2 = ((k : Int), (num : Int) + 1, mText) := by
                  have e : (((j : Int) + 1).toNat % 64) = j + 1 := by omega
                  rw [e, ringN_at xs (by omega) (by omega)]
                  exact hmsg
                have hhas : hasP 0 (ringN xs xs.length) ((j : Int) + 1) = true := has_all xs HL.out _ (by omega) (by omega)
                have HGT := Lib.hid (sget_has H 0 (ringN xs xs.length) ((j : Int) + 1) k (num + 1) mText _ HJ.out.2.1 (by omega) (by omega) hhas hrg)
                have HX2 := Lib.hid (And.intro hx (And.intro hk (And.intro hk4 (And.intro hnum hn60))))
                clear hx hk hnum hmsg hrg hhas hxw
                have hk4i : (k : Int) < 4 := by omega
                have hk0i : 0 ≤ (k : Int) := by omega
                go_wp2_with fail
                refine HRE.out.mono ?_
                rintro e w6 ⟨rfl, hw6⟩
                have hw6' := hw6.symm
                clear hw6
                subst hw6'
                go_wp2_with fail
                refine HGT.out.mono ?_
                rintro e w7 ⟨rfl, hM7⟩
                have hrow := heap_new w7 (.cells #[.int .i64 k, .int .u64 (num + 1), .string mText] 29)
                have hmw := hM7.alloc (.cells #[.int .i64 k, .int .u64 (num + 1), .string mText] 29)
                have HLA7 := Lib.hid (HJ.out.1.mod hmw (by simp))
                have HSH7 := Lib.hid (HJ.out.2.1.mod hmw (by simp))
                have HM7 := Lib.hid (HJ.out.2.2.trans hmw)
                have HLB7 := Lib.hid (show lb < w7.heap.size from by
                  have h1 := cell_lt' (HJ.out.1.cell 0 (by decide))
                  have h2 := hM7.size
                  simp at h1
                  omega)
                have HROW := Lib.hid hrow
                clear hrow hmw hM7
                go_wp2_with fail
                generalize w7.alloc (.cells #[.int .i64 k, .int .u64 (num + 1), .string mText] 29) = w8 at HLA7 HSH7 HM7 HROW ⊢
                have hbl : lb ≠ w7.heap.size := by have := HLB7.out; omega
                have hbw : w7.heap.size < w8.heap.size := (Array.getElem?_eq_some_iff.1 HROW.out).1
                generalize w7.heap.size = b at HROW HLB7 hbl hbw ⊢
                have b0 := cell_in HROW.out (show (#[Value.int .i64 k, .int .u64 (num + 1), .string mText] : Array Value)[0]? = some (.int .i64 k) from rfl)
                have b1 := cell_in HROW.out (show (#[Value.int .i64 k, .int .u64 (num + 1), .string mText] : Array Value)[1]? = some (.int .u64 (num + 1)) from rfl)
                have lk := HLA7.out.cell k HX2.out.2.2.1
                rw [HX2.out.2.2.2.1] at lk
                have lf := HLA7.out.free k
                have hn1000 := HX2.out.2.2.2.2
                have hwr1 : IntKind.u64.wrap ((num : Int) + 1) = (num : Int) + 1 := IntWalk.u64_in _ (by omega)
                go_region_held3 (fun w' => w'.cell? ⟨b, 0, none⟩ = some (.int .i64 k) ∧ w'.cell? ⟨b, 1, none⟩ = some (.int .u64 (num + 1)) ∧ w'.cell? ⟨lb, k, none⟩ = some (.int .u64 num)) (exact ⟨b0, b1, lk⟩) (fail)
                clear hwr1
                go_wp2_with fail
                have hs1 : Mod [lb] w8 (w8.setCell ⟨lb, k, none⟩ (.int .u64 ((num : Int) + 1))).drew := ((Mod.refl _ _).setCell (.inl (by simp)) _).drew
                have hset := HLA7.out.set HX2.out.1 HX2.out.2.1 HX2.out.2.2.1
                rw [HX2.out.2.2.2.1] at hset
                have h1 := HLB.out
                refine ⟨⟨j + 1, by simp, by omega, hset.mod (Mod.refl [] _).drew (by simp), HSH7.out.mod hs1 (by simp; omega), HM7.out.step hs1 (fun x hx => .inr (by simp at hx; omega))⟩, ?_⟩
                simp [intOf]
                omega
              · obtain rfl : j = xs.length := by omega
                have hle : ¬ ((xs.length : Int) + 1 ≤ xs.length) := by omega
                go_wp2_with fail
                refine HRE.out.mono ?_
                rintro e w6 ⟨rfl, hw6⟩
                have hw6' := hw6.symm
                clear hw6
                subst hw6'
                go_wp2_with fail
                refine HRE.out.mono ?_
                rintro e w6 ⟨rfl, hw6⟩
                have hw6' := hw6.symm
                clear hw6
                subst hw6'
                go_wp2
                go_ret
                exact ⟨rfl, HJ.out.2.2⟩

end Go.Proofs.YtggaaemldcdeiaaGreatDoor
